import Derived.Test.YtpnmhldaaaemeaaMa6
/- Chapter 24: may an item be, no. Printed by gen_fine24.py. -/
namespace Go.Proofs.Ytpnmhldaaaemeaa.Snp
open Go.RowKit Go.Proofs.Ytpnmhldaaaemeaa.Pin

set_option maxHeartbeats 4000000 in
set_option maxRecDepth 100000 in
set_option linter.unusedVariables false in
theorem fine_no1 (it : It) (c : Cl) (ab : Nat) (w : World) (hv : ValAt w w.heap.size c it.val) (hB : VaB it.val) (hab : w.heap[ab]? = some (.cells kindsA 59 (0, 0)))  (h1 : it.db < 0) : Asks 19 #[iV it c, .pointer (some ⟨ab, 0, none⟩)] w (FineP it) := by
  unfold Asks
  have hv0 : ∀ n, (Instr.loadAt 31 (.pointer (some ⟨w.heap.size, 2, none⟩))).run Try.prog ((w.alloc (iO it c)).drewN n) = .ok (vV it.val c) ((w.alloc (iO it c)).drewN n) := fun n => load_val it c _ w.heap.size (heap_alloc_new w _)
  have HV := Lib.hid hv
  have HVB := Lib.hid hB
  have HAB := Lib.hid hab
  have HAL := Lib.hid (show ab < w.heap.size from (Array.getElem?_eq_some_iff.1 hab).1)
  have q1 : decide (0 ≤ it.db) = false := by simpa using h1
  clear hv hB hab 
  go_enter Try.func19, Try.ntmps19
  go_wp2_with fail
  refine wp_region_q [0,1,0,0,0,1,0,0,0,0,1,1,0,0,0,1,0,0,0,0,1,0,0,0,0,0,1,0,0,0,0,0,1,0,0,0,0,1,2,0,0,0,0,1,0,0,1,0,1,2,0,0] (by kernel_rfl) (by kernel_rfl) ?_
  (refine q_pure_n rfl (fun K hK => ?_); go_simp; refine hK _ _ ?_; clear hK K)
  (refine q_read_n rfl (fun K hK => ?_); go_simp; refine hK _ _ ?_; clear hK K)
  (refine q_pure_n rfl (fun K hK => ?_); go_simp; refine hK _ _ ?_; clear hK K)
  (refine q_pure_n rfl (fun K hK => ?_); go_simp; refine hK _ _ ?_; clear hK K)
  first | (refine q_pure_x rfl ?hy (fun K hK => ?_); (case hy => rfl); go_simp; refine hK _ _ ?_; clear hK K) | (refine q_pure_u rfl ?hy (fun K hK => ?_); (case hy => rfl); go_simp; refine hK _ _ ?_; clear hK K) | (refine q_pure_y rfl ?hy (fun K hK => ?_); (case hy => rfl); go_simp; refine hK _ _ ?_; clear hK K)
  first | (refine q_read_x rfl ?hy (fun K hK => ?_); (case hy => rfl); go_simp; refine hK _ _ ?_; clear hK K) | (refine q_read_u rfl ?hy (fun K hK => ?_); (case hy => rfl); go_simp; refine hK _ _ ?_; clear hK K) | (refine q_read_y rfl ?hy (fun K hK => ?_); (case hy => rfl); go_simp; refine hK _ _ ?_; clear hK K)
  first | (refine q_pure_x rfl ?hy (fun K hK => ?_); (case hy => rfl); go_simp; refine hK _ _ ?_; clear hK K) | (refine q_pure_u rfl ?hy (fun K hK => ?_); (case hy => rfl); go_simp; refine hK _ _ ?_; clear hK K) | (refine q_pure_y rfl ?hy (fun K hK => ?_); (case hy => rfl); go_simp; refine hK _ _ ?_; clear hK K)
  (refine q_pure_n rfl (fun K hK => ?_); go_simp; refine hK _ _ ?_; clear hK K)
  (refine q_pure_n rfl (fun K hK => ?_); go_simp; refine hK _ _ ?_; clear hK K)
  first | (refine q_pure_x rfl ?hy (fun K hK => ?_); (case hy => rfl); go_simp; refine hK _ _ ?_; clear hK K) | (refine q_pure_u rfl ?hy (fun K hK => ?_); (case hy => rfl); go_simp; refine hK _ _ ?_; clear hK K) | (refine q_pure_y rfl ?hy (fun K hK => ?_); (case hy => rfl); go_simp; refine hK _ _ ?_; clear hK K)
  first | (refine q_read_x rfl ?hy (fun K hK => ?_); (case hy => rfl); go_simp; refine hK _ _ ?_; clear hK K) | (refine q_read_u rfl ?hy (fun K hK => ?_); (case hy => rfl); go_simp; refine hK _ _ ?_; clear hK K) | (refine q_read_y rfl ?hy (fun K hK => ?_); (case hy => rfl); go_simp; refine hK _ _ ?_; clear hK K)
  first | (refine q_read_x rfl ?hy (fun K hK => ?_); (case hy => rfl); go_simp; refine hK _ _ ?_; clear hK K) | (refine q_read_u rfl ?hy (fun K hK => ?_); (case hy => rfl); go_simp; refine hK _ _ ?_; clear hK K) | (refine q_read_y rfl ?hy (fun K hK => ?_); (case hy => rfl); go_simp; apply Exists.intro; refine ⟨fun nw => ?_, hK _ _ ?_⟩; (exact read_same (may_yes H3.out _)); clear hK K)
  (refine q_pure_n rfl (fun K hK => ?_); go_simp; refine hK _ _ ?_; clear hK K)
  (refine q_pure_n rfl (fun K hK => ?_); go_simp; refine hK _ _ ?_; clear hK K)
  first | (refine q_pure_x rfl ?hy (fun K hK => ?_); (case hy => rfl); go_simp; refine hK _ _ ?_; clear hK K) | (refine q_pure_u rfl ?hy (fun K hK => ?_); (case hy => rfl); go_simp; refine hK _ _ ?_; clear hK K) | (refine q_pure_y rfl ?hy (fun K hK => ?_); (case hy => rfl); go_simp; refine hK _ _ ?_; clear hK K)
  first | (refine q_read_x rfl ?hy (fun K hK => ?_); (case hy => rfl); go_simp; refine hK _ _ ?_; clear hK K) | (refine q_read_u rfl ?hy (fun K hK => ?_); (case hy => rfl); go_simp; refine hK _ _ ?_; clear hK K) | (refine q_read_y rfl ?hy (fun K hK => ?_); (case hy => rfl); go_simp; refine hK _ _ ?_; clear hK K)
  first | (refine q_pure_x rfl ?hy (fun K hK => ?_); (case hy => rfl); go_simp; refine hK _ _ ?_; clear hK K) | (refine q_pure_u rfl ?hy (fun K hK => ?_); (case hy => rfl); go_simp; refine hK _ _ ?_; clear hK K) | (refine q_pure_y rfl ?hy (fun K hK => ?_); (case hy => rfl); go_simp; refine hK _ _ ?_; clear hK K)
  (refine q_pure_n rfl (fun K hK => ?_); go_simp; refine hK _ _ ?_; clear hK K)
  (refine q_pure_n rfl (fun K hK => ?_); go_simp; refine hK _ _ ?_; clear hK K)
  first | (refine q_pure_x rfl ?hy (fun K hK => ?_); (case hy => rfl); go_simp; refine hK _ _ ?_; clear hK K) | (refine q_pure_u rfl ?hy (fun K hK => ?_); (case hy => rfl); go_simp; refine hK _ _ ?_; clear hK K) | (refine q_pure_y rfl ?hy (fun K hK => ?_); (case hy => rfl); go_simp; refine hK _ _ ?_; clear hK K)
  first | (refine q_read_x rfl ?hy (fun K hK => ?_); (case hy => rfl); go_simp; refine hK _ _ ?_; clear hK K) | (refine q_read_u rfl ?hy (fun K hK => ?_); (case hy => rfl); go_simp; refine hK _ _ ?_; clear hK K) | (refine q_read_y rfl ?hy (fun K hK => ?_); (case hy => rfl); go_simp; refine hK _ _ ?_; clear hK K)
  first | (refine q_pure_x rfl ?hy (fun K hK => ?_); (case hy => rfl); go_simp; refine hK _ _ ?_; clear hK K) | (refine q_pure_u rfl ?hy (fun K hK => ?_); (case hy => rfl); go_simp; refine hK _ _ ?_; clear hK K) | (refine q_pure_y rfl ?hy (fun K hK => ?_); (case hy => rfl); go_simp; refine hK _ _ ?_; clear hK K)
  (refine q_pure_n rfl (fun K hK => ?_); go_simp; refine hK _ _ ?_; clear hK K)
  (refine q_pure_n rfl (fun K hK => ?_); go_simp; refine hK _ _ ?_; clear hK K)
  first | (refine q_pure_x rfl ?hy (fun K hK => ?_); (case hy => rfl); go_simp; refine hK _ _ ?_; clear hK K) | (refine q_pure_u rfl ?hy (fun K hK => ?_); (case hy => rfl); go_simp; refine hK _ _ ?_; clear hK K) | (refine q_pure_y rfl ?hy (fun K hK => ?_); (case hy => rfl); go_simp; refine hK _ _ ?_; clear hK K)
  first | (refine q_pure_x rfl ?hy (fun K hK => ?_); (case hy => rfl); go_simp; refine hK _ _ ?_; clear hK K) | (refine q_pure_u rfl ?hy (fun K hK => ?_); (case hy => rfl); go_simp; refine hK _ _ ?_; clear hK K) | (refine q_pure_y rfl ?hy (fun K hK => ?_); (case hy => rfl); go_simp; refine hK _ _ ?_; clear hK K)
  first | (refine q_read_x rfl ?hy (fun K hK => ?_); (case hy => rfl); go_simp; refine hK _ _ ?_; clear hK K) | (refine q_read_u rfl ?hy (fun K hK => ?_); (case hy => rfl); go_simp; refine hK _ _ ?_; clear hK K) | (refine q_read_y rfl ?hy (fun K hK => ?_); (case hy => rfl); go_simp; refine hK _ _ ?_; clear hK K)
  first | (refine q_pure_x rfl ?hy (fun K hK => ?_); (case hy => rfl); go_simp; refine hK _ _ ?_; clear hK K) | (refine q_pure_u rfl ?hy (fun K hK => ?_); (case hy => rfl); go_simp; refine hK _ _ ?_; clear hK K) | (refine q_pure_y rfl ?hy (fun K hK => ?_); (case hy => rfl); go_simp; refine hK _ _ ?_; clear hK K)
  (refine q_pure_n rfl (fun K hK => ?_); go_simp; refine hK _ _ ?_; clear hK K)
  (refine q_pure_n rfl (fun K hK => ?_); go_simp; refine hK _ _ ?_; clear hK K)
  first | (refine q_pure_x rfl ?hy (fun K hK => ?_); (case hy => rfl); go_simp; refine hK _ _ ?_; clear hK K) | (refine q_pure_u rfl ?hy (fun K hK => ?_); (case hy => rfl); go_simp; refine hK _ _ ?_; clear hK K) | (refine q_pure_y rfl ?hy (fun K hK => ?_); (case hy => rfl); go_simp; refine hK _ _ ?_; clear hK K)
  first | (refine q_pure_x rfl ?hy (fun K hK => ?_); (case hy => rfl); go_simp; refine hK _ _ ?_; clear hK K) | (refine q_pure_u rfl ?hy (fun K hK => ?_); (case hy => rfl); go_simp; refine hK _ _ ?_; clear hK K) | (refine q_pure_y rfl ?hy (fun K hK => ?_); (case hy => rfl); go_simp; refine hK _ _ ?_; clear hK K)
  first | (refine q_read_x rfl ?hy (fun K hK => ?_); (case hy => rfl); go_simp; refine hK _ _ ?_; clear hK K) | (refine q_read_u rfl ?hy (fun K hK => ?_); (case hy => rfl); go_simp; refine hK _ _ ?_; clear hK K) | (refine q_read_y rfl ?hy (fun K hK => ?_); (case hy => rfl); go_simp; refine hK _ _ ?_; clear hK K)
  first | (refine q_pure_x rfl ?hy (fun K hK => ?_); (case hy => rfl); go_simp; refine hK _ _ ?_; clear hK K) | (refine q_pure_u rfl ?hy (fun K hK => ?_); (case hy => rfl); go_simp; refine hK _ _ ?_; clear hK K) | (refine q_pure_y rfl ?hy (fun K hK => ?_); (case hy => rfl); go_simp; refine hK _ _ ?_; clear hK K)
  (refine q_pure_n rfl (fun K hK => ?_); go_simp; refine hK _ _ ?_; clear hK K)
  (refine q_pure_n rfl (fun K hK => ?_); go_simp; refine hK _ _ ?_; clear hK K)
  first | (refine q_pure_x rfl ?hy (fun K hK => ?_); (case hy => rfl); go_simp; refine hK _ _ ?_; clear hK K) | (refine q_pure_u rfl ?hy (fun K hK => ?_); (case hy => rfl); go_simp; refine hK _ _ ?_; clear hK K) | (refine q_pure_y rfl ?hy (fun K hK => ?_); (case hy => rfl); go_simp; refine hK _ _ ?_; clear hK K)
  first | (refine q_read_x rfl ?hy (fun K hK => ?_); (case hy => rfl); go_simp; refine hK _ _ ?_; clear hK K) | (refine q_read_u rfl ?hy (fun K hK => ?_); (case hy => rfl); go_simp; refine hK _ _ ?_; clear hK K) | (refine q_read_y rfl ?hy (fun K hK => ?_); (case hy => rfl); go_simp; refine hK _ _ ?_; clear hK K)
  first | (refine q_write_x rfl ?hy (fun K hK => ?_); (case hy => rfl); go_simp; refine hK _ _ ?_; clear hK K) | (refine q_write_u rfl ?hy (fun K hK => ?_); (case hy => rfl); go_simp; refine hK _ _ ?_; clear hK K) | (refine q_write_y rfl ?hy (fun K hK => ?_); (case hy => rfl); go_simp; intro nw; fail; refine ⟨_, rfl, _, ⟨_, rfl⟩, hK _ _ ?_⟩; clear hK K)
  (refine q_pure_n rfl (fun K hK => ?_); go_simp; refine hK _ _ ?_; clear hK K)
  (refine q_pure_n rfl (fun K hK => ?_); go_simp; refine hK _ _ ?_; clear hK K)
  first | (refine q_pure_x rfl ?hy (fun K hK => ?_); (case hy => rfl); go_simp; refine hK _ _ ?_; clear hK K) | (refine q_pure_u rfl ?hy (fun K hK => ?_); (case hy => rfl); go_simp; refine hK _ _ ?_; clear hK K) | (refine q_pure_y rfl ?hy (fun K hK => ?_); (case hy => rfl); go_simp; refine hK _ _ ?_; clear hK K)
  first | (refine q_pure_x rfl ?hy (fun K hK => ?_); (case hy => rfl); go_simp; refine hK _ _ ?_; clear hK K) | (refine q_pure_u rfl ?hy (fun K hK => ?_); (case hy => rfl); go_simp; refine hK _ _ ?_; clear hK K) | (refine q_pure_y rfl ?hy (fun K hK => ?_); (case hy => rfl); go_simp; refine hK _ _ ?_; clear hK K)
  first | (refine q_read_x rfl ?hy (fun K hK => ?_); (case hy => rfl); go_simp; refine hK _ _ ?_; clear hK K) | (refine q_read_u rfl ?hy (fun K hK => ?_); (case hy => rfl); go_simp; refine hK _ _ ?_; clear hK K) | (refine q_read_y rfl ?hy (fun K hK => ?_); (case hy => rfl); go_simp; refine hK _ _ ?_; clear hK K)
  first | (refine q_pure_x rfl ?hy (fun K hK => ?_); (case hy => rfl); go_simp; refine hK _ _ ?_; clear hK K) | (refine q_pure_u rfl ?hy (fun K hK => ?_); (case hy => rfl); go_simp; refine hK _ _ ?_; clear hK K) | (refine q_pure_y rfl ?hy (fun K hK => ?_); (case hy => rfl); go_simp; refine hK _ _ ?_; clear hK K)
  first | (refine q_pure_x rfl ?hy (fun K hK => ?_); (case hy => rfl); go_simp; refine hK _ _ ?_; clear hK K) | (refine q_pure_u rfl ?hy (fun K hK => ?_); (case hy => rfl); go_simp; refine hK _ _ ?_; clear hK K) | (refine q_pure_y rfl ?hy (fun K hK => ?_); (case hy => rfl); go_simp; refine hK _ _ ?_; clear hK K)
  first | (refine q_read_x rfl ?hy (fun K hK => ?_); (case hy => rfl); go_simp; refine hK _ _ ?_; clear hK K) | (refine q_read_u rfl ?hy (fun K hK => ?_); (case hy => rfl); go_simp; refine hK _ _ ?_; clear hK K) | (refine q_read_y rfl ?hy (fun K hK => ?_); (case hy => rfl); go_simp; refine hK _ _ ?_; clear hK K)
  first | (refine q_pure_x rfl ?hy (fun K hK => ?_); (case hy => rfl); go_simp; refine hK _ _ ?_; clear hK K) | (refine q_pure_u rfl ?hy (fun K hK => ?_); (case hy => rfl); go_simp; refine hK _ _ ?_; clear hK K) | (refine q_pure_y rfl ?hy (fun K hK => ?_); (case hy => rfl); go_simp; refine hK _ _ ?_; clear hK K)
  first | (refine q_read_x rfl ?hy (fun K hK => ?_); (case hy => rfl); go_simp; refine hK _ _ ?_; clear hK K) | (refine q_read_u rfl ?hy (fun K hK => ?_); (case hy => rfl); go_simp; refine hK _ _ ?_; clear hK K) | (refine q_read_y rfl ?hy (fun K hK => ?_); (case hy => rfl); go_simp; refine hK _ _ ?_; clear hK K)
  first | (refine q_write_x rfl ?hy (fun K hK => ?_); (case hy => rfl); go_simp; refine hK _ _ ?_; clear hK K) | (refine q_write_u rfl ?hy (fun K hK => ?_); (case hy => rfl); go_simp; refine hK _ _ ?_; clear hK K) | (refine q_write_y rfl ?hy (fun K hK => ?_); (case hy => rfl); go_simp; intro nw; fail; refine ⟨_, rfl, _, ⟨_, rfl⟩, hK _ _ ?_⟩; clear hK K)
  (refine q_pure_n rfl (fun K hK => ?_); go_simp; refine hK _ _ ?_; clear hK K)
  (refine q_pure_n rfl (fun K hK => ?_); go_simp; refine hK _ _ ?_; clear hK K)
  refine q_nil ?_
  intro nq
  go_wp2_with fail
  go_ret
  refine ⟨ret_no ?_, below_drewN ((Below.refl _ w).alloc (Nat.le_refl _) _) _⟩
  exact fun h => by have := h.1.1; omega
set_option maxHeartbeats 4000000 in
set_option maxRecDepth 100000 in
set_option linter.unusedVariables false in
theorem fine_no2 (it : It) (c : Cl) (ab : Nat) (w : World) (hv : ValAt w w.heap.size c it.val) (hB : VaB it.val) (hab : w.heap[ab]? = some (.cells kindsA 59 (0, 0))) (h1 : ¬ it.db < 0) (h2 : ¬ it.db < 16) : Asks 19 #[iV it c, .pointer (some ⟨ab, 0, none⟩)] w (FineP it) := by
  unfold Asks
  have hv0 : ∀ n, (Instr.loadAt 31 (.pointer (some ⟨w.heap.size, 2, none⟩))).run Try.prog ((w.alloc (iO it c)).drewN n) = .ok (vV it.val c) ((w.alloc (iO it c)).drewN n) := fun n => load_val it c _ w.heap.size (heap_alloc_new w _)
  have HV := Lib.hid hv
  have HVB := Lib.hid hB
  have HAB := Lib.hid hab
  have HAL := Lib.hid (show ab < w.heap.size from (Array.getElem?_eq_some_iff.1 hab).1)
  have q1 : decide (it.db < 0) = false := by simpa using h1
  have q2 : decide (it.db < 16) = false := by simpa using h2
  clear hv hB hab 
  go_enter Try.func19, Try.ntmps19
  go_wp2_with fail
  refine wp_region_q [0,1,0,0,0,1,0,0,0,0,1,1,0,0,0,1,0,0,0,0,1,0,0,0,0,0,1,0,0,0,0,0,1,0,0,0,0,1,2,0,0,0,0,1,0,0,1,0,1,2,0,0] (by kernel_rfl) (by kernel_rfl) ?_
  (refine q_pure_n rfl (fun K hK => ?_); go_simp; refine hK _ _ ?_; clear hK K)
  (refine q_read_n rfl (fun K hK => ?_); go_simp; refine hK _ _ ?_; clear hK K)
  (refine q_pure_n rfl (fun K hK => ?_); go_simp; refine hK _ _ ?_; clear hK K)
  (refine q_pure_n rfl (fun K hK => ?_); go_simp; refine hK _ _ ?_; clear hK K)
  first | (refine q_pure_x rfl ?hy (fun K hK => ?_); (case hy => rfl); go_simp; refine hK _ _ ?_; clear hK K) | (refine q_pure_u rfl ?hy (fun K hK => ?_); (case hy => rfl); go_simp; refine hK _ _ ?_; clear hK K) | (refine q_pure_y rfl ?hy (fun K hK => ?_); (case hy => rfl); go_simp; refine hK _ _ ?_; clear hK K)
  first | (refine q_read_x rfl ?hy (fun K hK => ?_); (case hy => rfl); go_simp; refine hK _ _ ?_; clear hK K) | (refine q_read_u rfl ?hy (fun K hK => ?_); (case hy => rfl); go_simp; refine hK _ _ ?_; clear hK K) | (refine q_read_y rfl ?hy (fun K hK => ?_); (case hy => rfl); go_simp; refine hK _ _ ?_; clear hK K)
  first | (refine q_pure_x rfl ?hy (fun K hK => ?_); (case hy => rfl); go_simp; refine hK _ _ ?_; clear hK K) | (refine q_pure_u rfl ?hy (fun K hK => ?_); (case hy => rfl); go_simp; refine hK _ _ ?_; clear hK K) | (refine q_pure_y rfl ?hy (fun K hK => ?_); (case hy => rfl); go_simp; refine hK _ _ ?_; clear hK K)
  (refine q_pure_n rfl (fun K hK => ?_); go_simp; refine hK _ _ ?_; clear hK K)
  (refine q_pure_n rfl (fun K hK => ?_); go_simp; refine hK _ _ ?_; clear hK K)
  first | (refine q_pure_x rfl ?hy (fun K hK => ?_); (case hy => rfl); go_simp; refine hK _ _ ?_; clear hK K) | (refine q_pure_u rfl ?hy (fun K hK => ?_); (case hy => rfl); go_simp; refine hK _ _ ?_; clear hK K) | (refine q_pure_y rfl ?hy (fun K hK => ?_); (case hy => rfl); go_simp; refine hK _ _ ?_; clear hK K)
  first | (refine q_read_x rfl ?hy (fun K hK => ?_); (case hy => rfl); go_simp; refine hK _ _ ?_; clear hK K) | (refine q_read_u rfl ?hy (fun K hK => ?_); (case hy => rfl); go_simp; refine hK _ _ ?_; clear hK K) | (refine q_read_y rfl ?hy (fun K hK => ?_); (case hy => rfl); go_simp; refine hK _ _ ?_; clear hK K)
  first | (refine q_read_x rfl ?hy (fun K hK => ?_); (case hy => rfl); go_simp; refine hK _ _ ?_; clear hK K) | (refine q_read_u rfl ?hy (fun K hK => ?_); (case hy => rfl); go_simp; refine hK _ _ ?_; clear hK K) | (refine q_read_y rfl ?hy (fun K hK => ?_); (case hy => rfl); go_simp; apply Exists.intro; refine ⟨fun nw => ?_, hK _ _ ?_⟩; (exact read_same (may_yes H3.out _)); clear hK K)
  (refine q_pure_n rfl (fun K hK => ?_); go_simp; refine hK _ _ ?_; clear hK K)
  (refine q_pure_n rfl (fun K hK => ?_); go_simp; refine hK _ _ ?_; clear hK K)
  first | (refine q_pure_x rfl ?hy (fun K hK => ?_); (case hy => rfl); go_simp; refine hK _ _ ?_; clear hK K) | (refine q_pure_u rfl ?hy (fun K hK => ?_); (case hy => rfl); go_simp; refine hK _ _ ?_; clear hK K) | (refine q_pure_y rfl ?hy (fun K hK => ?_); (case hy => rfl); go_simp; refine hK _ _ ?_; clear hK K)
  first | (refine q_read_x rfl ?hy (fun K hK => ?_); (case hy => rfl); go_simp; refine hK _ _ ?_; clear hK K) | (refine q_read_u rfl ?hy (fun K hK => ?_); (case hy => rfl); go_simp; refine hK _ _ ?_; clear hK K) | (refine q_read_y rfl ?hy (fun K hK => ?_); (case hy => rfl); go_simp; refine hK _ _ ?_; clear hK K)
  first | (refine q_pure_x rfl ?hy (fun K hK => ?_); (case hy => rfl); go_simp; refine hK _ _ ?_; clear hK K) | (refine q_pure_u rfl ?hy (fun K hK => ?_); (case hy => rfl); go_simp; refine hK _ _ ?_; clear hK K) | (refine q_pure_y rfl ?hy (fun K hK => ?_); (case hy => rfl); go_simp; refine hK _ _ ?_; clear hK K)
  (refine q_pure_n rfl (fun K hK => ?_); go_simp; refine hK _ _ ?_; clear hK K)
  (refine q_pure_n rfl (fun K hK => ?_); go_simp; refine hK _ _ ?_; clear hK K)
  first | (refine q_pure_x rfl ?hy (fun K hK => ?_); (case hy => rfl); go_simp; refine hK _ _ ?_; clear hK K) | (refine q_pure_u rfl ?hy (fun K hK => ?_); (case hy => rfl); go_simp; refine hK _ _ ?_; clear hK K) | (refine q_pure_y rfl ?hy (fun K hK => ?_); (case hy => rfl); go_simp; refine hK _ _ ?_; clear hK K)
  first | (refine q_read_x rfl ?hy (fun K hK => ?_); (case hy => rfl); go_simp; refine hK _ _ ?_; clear hK K) | (refine q_read_u rfl ?hy (fun K hK => ?_); (case hy => rfl); go_simp; refine hK _ _ ?_; clear hK K) | (refine q_read_y rfl ?hy (fun K hK => ?_); (case hy => rfl); go_simp; refine hK _ _ ?_; clear hK K)
  first | (refine q_pure_x rfl ?hy (fun K hK => ?_); (case hy => rfl); go_simp; refine hK _ _ ?_; clear hK K) | (refine q_pure_u rfl ?hy (fun K hK => ?_); (case hy => rfl); go_simp; refine hK _ _ ?_; clear hK K) | (refine q_pure_y rfl ?hy (fun K hK => ?_); (case hy => rfl); go_simp; refine hK _ _ ?_; clear hK K)
  (refine q_pure_n rfl (fun K hK => ?_); go_simp; refine hK _ _ ?_; clear hK K)
  (refine q_pure_n rfl (fun K hK => ?_); go_simp; refine hK _ _ ?_; clear hK K)
  first | (refine q_pure_x rfl ?hy (fun K hK => ?_); (case hy => rfl); go_simp; refine hK _ _ ?_; clear hK K) | (refine q_pure_u rfl ?hy (fun K hK => ?_); (case hy => rfl); go_simp; refine hK _ _ ?_; clear hK K) | (refine q_pure_y rfl ?hy (fun K hK => ?_); (case hy => rfl); go_simp; refine hK _ _ ?_; clear hK K)
  first | (refine q_pure_x rfl ?hy (fun K hK => ?_); (case hy => rfl); go_simp; refine hK _ _ ?_; clear hK K) | (refine q_pure_u rfl ?hy (fun K hK => ?_); (case hy => rfl); go_simp; refine hK _ _ ?_; clear hK K) | (refine q_pure_y rfl ?hy (fun K hK => ?_); (case hy => rfl); go_simp; refine hK _ _ ?_; clear hK K)
  first | (refine q_read_x rfl ?hy (fun K hK => ?_); (case hy => rfl); go_simp; refine hK _ _ ?_; clear hK K) | (refine q_read_u rfl ?hy (fun K hK => ?_); (case hy => rfl); go_simp; refine hK _ _ ?_; clear hK K) | (refine q_read_y rfl ?hy (fun K hK => ?_); (case hy => rfl); go_simp; refine hK _ _ ?_; clear hK K)
  first | (refine q_pure_x rfl ?hy (fun K hK => ?_); (case hy => rfl); go_simp; refine hK _ _ ?_; clear hK K) | (refine q_pure_u rfl ?hy (fun K hK => ?_); (case hy => rfl); go_simp; refine hK _ _ ?_; clear hK K) | (refine q_pure_y rfl ?hy (fun K hK => ?_); (case hy => rfl); go_simp; refine hK _ _ ?_; clear hK K)
  (refine q_pure_n rfl (fun K hK => ?_); go_simp; refine hK _ _ ?_; clear hK K)
  (refine q_pure_n rfl (fun K hK => ?_); go_simp; refine hK _ _ ?_; clear hK K)
  first | (refine q_pure_x rfl ?hy (fun K hK => ?_); (case hy => rfl); go_simp; refine hK _ _ ?_; clear hK K) | (refine q_pure_u rfl ?hy (fun K hK => ?_); (case hy => rfl); go_simp; refine hK _ _ ?_; clear hK K) | (refine q_pure_y rfl ?hy (fun K hK => ?_); (case hy => rfl); go_simp; refine hK _ _ ?_; clear hK K)
  first | (refine q_pure_x rfl ?hy (fun K hK => ?_); (case hy => rfl); go_simp; refine hK _ _ ?_; clear hK K) | (refine q_pure_u rfl ?hy (fun K hK => ?_); (case hy => rfl); go_simp; refine hK _ _ ?_; clear hK K) | (refine q_pure_y rfl ?hy (fun K hK => ?_); (case hy => rfl); go_simp; refine hK _ _ ?_; clear hK K)
  first | (refine q_read_x rfl ?hy (fun K hK => ?_); (case hy => rfl); go_simp; refine hK _ _ ?_; clear hK K) | (refine q_read_u rfl ?hy (fun K hK => ?_); (case hy => rfl); go_simp; refine hK _ _ ?_; clear hK K) | (refine q_read_y rfl ?hy (fun K hK => ?_); (case hy => rfl); go_simp; refine hK _ _ ?_; clear hK K)
  first | (refine q_pure_x rfl ?hy (fun K hK => ?_); (case hy => rfl); go_simp; refine hK _ _ ?_; clear hK K) | (refine q_pure_u rfl ?hy (fun K hK => ?_); (case hy => rfl); go_simp; refine hK _ _ ?_; clear hK K) | (refine q_pure_y rfl ?hy (fun K hK => ?_); (case hy => rfl); go_simp; refine hK _ _ ?_; clear hK K)
  (refine q_pure_n rfl (fun K hK => ?_); go_simp; refine hK _ _ ?_; clear hK K)
  (refine q_pure_n rfl (fun K hK => ?_); go_simp; refine hK _ _ ?_; clear hK K)
  first | (refine q_pure_x rfl ?hy (fun K hK => ?_); (case hy => rfl); go_simp; refine hK _ _ ?_; clear hK K) | (refine q_pure_u rfl ?hy (fun K hK => ?_); (case hy => rfl); go_simp; refine hK _ _ ?_; clear hK K) | (refine q_pure_y rfl ?hy (fun K hK => ?_); (case hy => rfl); go_simp; refine hK _ _ ?_; clear hK K)
  first | (refine q_read_x rfl ?hy (fun K hK => ?_); (case hy => rfl); go_simp; refine hK _ _ ?_; clear hK K) | (refine q_read_u rfl ?hy (fun K hK => ?_); (case hy => rfl); go_simp; refine hK _ _ ?_; clear hK K) | (refine q_read_y rfl ?hy (fun K hK => ?_); (case hy => rfl); go_simp; refine hK _ _ ?_; clear hK K)
  first | (refine q_write_x rfl ?hy (fun K hK => ?_); (case hy => rfl); go_simp; refine hK _ _ ?_; clear hK K) | (refine q_write_u rfl ?hy (fun K hK => ?_); (case hy => rfl); go_simp; refine hK _ _ ?_; clear hK K) | (refine q_write_y rfl ?hy (fun K hK => ?_); (case hy => rfl); go_simp; intro nw; fail; refine ⟨_, rfl, _, ⟨_, rfl⟩, hK _ _ ?_⟩; clear hK K)
  (refine q_pure_n rfl (fun K hK => ?_); go_simp; refine hK _ _ ?_; clear hK K)
  (refine q_pure_n rfl (fun K hK => ?_); go_simp; refine hK _ _ ?_; clear hK K)
  first | (refine q_pure_x rfl ?hy (fun K hK => ?_); (case hy => rfl); go_simp; refine hK _ _ ?_; clear hK K) | (refine q_pure_u rfl ?hy (fun K hK => ?_); (case hy => rfl); go_simp; refine hK _ _ ?_; clear hK K) | (refine q_pure_y rfl ?hy (fun K hK => ?_); (case hy => rfl); go_simp; refine hK _ _ ?_; clear hK K)
  first | (refine q_pure_x rfl ?hy (fun K hK => ?_); (case hy => rfl); go_simp; refine hK _ _ ?_; clear hK K) | (refine q_pure_u rfl ?hy (fun K hK => ?_); (case hy => rfl); go_simp; refine hK _ _ ?_; clear hK K) | (refine q_pure_y rfl ?hy (fun K hK => ?_); (case hy => rfl); go_simp; refine hK _ _ ?_; clear hK K)
  first | (refine q_read_x rfl ?hy (fun K hK => ?_); (case hy => rfl); go_simp; refine hK _ _ ?_; clear hK K) | (refine q_read_u rfl ?hy (fun K hK => ?_); (case hy => rfl); go_simp; refine hK _ _ ?_; clear hK K) | (refine q_read_y rfl ?hy (fun K hK => ?_); (case hy => rfl); go_simp; refine hK _ _ ?_; clear hK K)
  first | (refine q_pure_x rfl ?hy (fun K hK => ?_); (case hy => rfl); go_simp; refine hK _ _ ?_; clear hK K) | (refine q_pure_u rfl ?hy (fun K hK => ?_); (case hy => rfl); go_simp; refine hK _ _ ?_; clear hK K) | (refine q_pure_y rfl ?hy (fun K hK => ?_); (case hy => rfl); go_simp; refine hK _ _ ?_; clear hK K)
  first | (refine q_pure_x rfl ?hy (fun K hK => ?_); (case hy => rfl); go_simp; refine hK _ _ ?_; clear hK K) | (refine q_pure_u rfl ?hy (fun K hK => ?_); (case hy => rfl); go_simp; refine hK _ _ ?_; clear hK K) | (refine q_pure_y rfl ?hy (fun K hK => ?_); (case hy => rfl); go_simp; refine hK _ _ ?_; clear hK K)
  first | (refine q_read_x rfl ?hy (fun K hK => ?_); (case hy => rfl); go_simp; refine hK _ _ ?_; clear hK K) | (refine q_read_u rfl ?hy (fun K hK => ?_); (case hy => rfl); go_simp; refine hK _ _ ?_; clear hK K) | (refine q_read_y rfl ?hy (fun K hK => ?_); (case hy => rfl); go_simp; refine hK _ _ ?_; clear hK K)
  first | (refine q_pure_x rfl ?hy (fun K hK => ?_); (case hy => rfl); go_simp; refine hK _ _ ?_; clear hK K) | (refine q_pure_u rfl ?hy (fun K hK => ?_); (case hy => rfl); go_simp; refine hK _ _ ?_; clear hK K) | (refine q_pure_y rfl ?hy (fun K hK => ?_); (case hy => rfl); go_simp; refine hK _ _ ?_; clear hK K)
  first | (refine q_read_x rfl ?hy (fun K hK => ?_); (case hy => rfl); go_simp; refine hK _ _ ?_; clear hK K) | (refine q_read_u rfl ?hy (fun K hK => ?_); (case hy => rfl); go_simp; refine hK _ _ ?_; clear hK K) | (refine q_read_y rfl ?hy (fun K hK => ?_); (case hy => rfl); go_simp; refine hK _ _ ?_; clear hK K)
  first | (refine q_write_x rfl ?hy (fun K hK => ?_); (case hy => rfl); go_simp; refine hK _ _ ?_; clear hK K) | (refine q_write_u rfl ?hy (fun K hK => ?_); (case hy => rfl); go_simp; refine hK _ _ ?_; clear hK K) | (refine q_write_y rfl ?hy (fun K hK => ?_); (case hy => rfl); go_simp; intro nw; fail; refine ⟨_, rfl, _, ⟨_, rfl⟩, hK _ _ ?_⟩; clear hK K)
  (refine q_pure_n rfl (fun K hK => ?_); go_simp; refine hK _ _ ?_; clear hK K)
  (refine q_pure_n rfl (fun K hK => ?_); go_simp; refine hK _ _ ?_; clear hK K)
  refine q_nil ?_
  intro nq
  go_wp2_with fail
  go_ret
  refine ⟨ret_no ?_, below_drewN ((Below.refl _ w).alloc (Nat.le_refl _) _) _⟩
  exact fun h => by have h9 := h.1.2; omega
set_option maxHeartbeats 4000000 in
set_option maxRecDepth 100000 in
set_option linter.unusedVariables false in
theorem fine_no3 (it : It) (c : Cl) (ab : Nat) (w : World) (hv : ValAt w w.heap.size c it.val) (hB : VaB it.val) (hab : w.heap[ab]? = some (.cells kindsA 59 (0, 0))) (h1 : ¬ it.db < 0) (h2 : it.db < 16) (h3 : ¬ MayP it.key) : Asks 19 #[iV it c, .pointer (some ⟨ab, 0, none⟩)] w (FineP it) := by
  unfold Asks
  have hv0 : ∀ n, (Instr.loadAt 31 (.pointer (some ⟨w.heap.size, 2, none⟩))).run Try.prog ((w.alloc (iO it c)).drewN n) = .ok (vV it.val c) ((w.alloc (iO it c)).drewN n) := fun n => load_val it c _ w.heap.size (heap_alloc_new w _)
  have HV := Lib.hid hv
  have HVB := Lib.hid hB
  have HAB := Lib.hid hab
  have HAL := Lib.hid (show ab < w.heap.size from (Array.getElem?_eq_some_iff.1 hab).1)
  have q1 : decide (it.db < 0) = false := by simpa using h1
  have q2 : decide (it.db < 16) = true := by simpa using h2
  have H3 := Lib.hid h3
  clear hv hB hab h3
  go_enter Try.func19, Try.ntmps19
  go_wp2_with fail
  refine wp_region_q [0,1,0,0,0,1,0,0,0,0,1,1,0,0,0,1,0,0,0,0,1,0,0,0,0,0,1,0,0,0,0,0,1,0,0,0,0,1,2,0,0,0,0,1,0,0,1,0,1,2,0,0] (by kernel_rfl) (by kernel_rfl) ?_
  (refine q_pure_n rfl (fun K hK => ?_); go_simp; refine hK _ _ ?_; clear hK K)
  (refine q_read_n rfl (fun K hK => ?_); go_simp; refine hK _ _ ?_; clear hK K)
  (refine q_pure_n rfl (fun K hK => ?_); go_simp; refine hK _ _ ?_; clear hK K)
  (refine q_pure_n rfl (fun K hK => ?_); go_simp; refine hK _ _ ?_; clear hK K)
  first | (refine q_pure_x rfl ?hy (fun K hK => ?_); (case hy => rfl); go_simp; refine hK _ _ ?_; clear hK K) | (refine q_pure_u rfl ?hy (fun K hK => ?_); (case hy => rfl); go_simp; refine hK _ _ ?_; clear hK K) | (refine q_pure_y rfl ?hy (fun K hK => ?_); (case hy => rfl); go_simp; refine hK _ _ ?_; clear hK K)
  first | (refine q_read_x rfl ?hy (fun K hK => ?_); (case hy => rfl); go_simp; refine hK _ _ ?_; clear hK K) | (refine q_read_u rfl ?hy (fun K hK => ?_); (case hy => rfl); go_simp; refine hK _ _ ?_; clear hK K) | (refine q_read_y rfl ?hy (fun K hK => ?_); (case hy => rfl); go_simp; refine hK _ _ ?_; clear hK K)
  first | (refine q_pure_x rfl ?hy (fun K hK => ?_); (case hy => rfl); go_simp; refine hK _ _ ?_; clear hK K) | (refine q_pure_u rfl ?hy (fun K hK => ?_); (case hy => rfl); go_simp; refine hK _ _ ?_; clear hK K) | (refine q_pure_y rfl ?hy (fun K hK => ?_); (case hy => rfl); go_simp; refine hK _ _ ?_; clear hK K)
  (refine q_pure_n rfl (fun K hK => ?_); go_simp; refine hK _ _ ?_; clear hK K)
  (refine q_pure_n rfl (fun K hK => ?_); go_simp; refine hK _ _ ?_; clear hK K)
  first | (refine q_pure_x rfl ?hy (fun K hK => ?_); (case hy => rfl); go_simp; refine hK _ _ ?_; clear hK K) | (refine q_pure_u rfl ?hy (fun K hK => ?_); (case hy => rfl); go_simp; refine hK _ _ ?_; clear hK K) | (refine q_pure_y rfl ?hy (fun K hK => ?_); (case hy => rfl); go_simp; refine hK _ _ ?_; clear hK K)
  first | (refine q_read_x rfl ?hy (fun K hK => ?_); (case hy => rfl); go_simp; refine hK _ _ ?_; clear hK K) | (refine q_read_u rfl ?hy (fun K hK => ?_); (case hy => rfl); go_simp; refine hK _ _ ?_; clear hK K) | (refine q_read_y rfl ?hy (fun K hK => ?_); (case hy => rfl); go_simp; refine hK _ _ ?_; clear hK K)
  first | (refine q_read_x rfl ?hy (fun K hK => ?_); (case hy => rfl); go_simp; refine hK _ _ ?_; clear hK K) | (refine q_read_u rfl ?hy (fun K hK => ?_); (case hy => rfl); go_simp; refine hK _ _ ?_; clear hK K) | (refine q_read_y rfl ?hy (fun K hK => ?_); (case hy => rfl); go_simp; apply Exists.intro; refine ⟨fun nw => ?_, hK _ _ ?_⟩; (exact read_same (may_no H3.out _)); clear hK K)
  (refine q_pure_n rfl (fun K hK => ?_); go_simp; refine hK _ _ ?_; clear hK K)
  (refine q_pure_n rfl (fun K hK => ?_); go_simp; refine hK _ _ ?_; clear hK K)
  first | (refine q_pure_x rfl ?hy (fun K hK => ?_); (case hy => rfl); go_simp; refine hK _ _ ?_; clear hK K) | (refine q_pure_u rfl ?hy (fun K hK => ?_); (case hy => rfl); go_simp; refine hK _ _ ?_; clear hK K) | (refine q_pure_y rfl ?hy (fun K hK => ?_); (case hy => rfl); go_simp; refine hK _ _ ?_; clear hK K)
  first | (refine q_read_x rfl ?hy (fun K hK => ?_); (case hy => rfl); go_simp; refine hK _ _ ?_; clear hK K) | (refine q_read_u rfl ?hy (fun K hK => ?_); (case hy => rfl); go_simp; refine hK _ _ ?_; clear hK K) | (refine q_read_y rfl ?hy (fun K hK => ?_); (case hy => rfl); go_simp; refine hK _ _ ?_; clear hK K)
  first | (refine q_pure_x rfl ?hy (fun K hK => ?_); (case hy => rfl); go_simp; refine hK _ _ ?_; clear hK K) | (refine q_pure_u rfl ?hy (fun K hK => ?_); (case hy => rfl); go_simp; refine hK _ _ ?_; clear hK K) | (refine q_pure_y rfl ?hy (fun K hK => ?_); (case hy => rfl); go_simp; refine hK _ _ ?_; clear hK K)
  (refine q_pure_n rfl (fun K hK => ?_); go_simp; refine hK _ _ ?_; clear hK K)
  (refine q_pure_n rfl (fun K hK => ?_); go_simp; refine hK _ _ ?_; clear hK K)
  first | (refine q_pure_x rfl ?hy (fun K hK => ?_); (case hy => rfl); go_simp; refine hK _ _ ?_; clear hK K) | (refine q_pure_u rfl ?hy (fun K hK => ?_); (case hy => rfl); go_simp; refine hK _ _ ?_; clear hK K) | (refine q_pure_y rfl ?hy (fun K hK => ?_); (case hy => rfl); go_simp; refine hK _ _ ?_; clear hK K)
  first | (refine q_read_x rfl ?hy (fun K hK => ?_); (case hy => rfl); go_simp; refine hK _ _ ?_; clear hK K) | (refine q_read_u rfl ?hy (fun K hK => ?_); (case hy => rfl); go_simp; refine hK _ _ ?_; clear hK K) | (refine q_read_y rfl ?hy (fun K hK => ?_); (case hy => rfl); go_simp; refine hK _ _ ?_; clear hK K)
  first | (refine q_pure_x rfl ?hy (fun K hK => ?_); (case hy => rfl); go_simp; refine hK _ _ ?_; clear hK K) | (refine q_pure_u rfl ?hy (fun K hK => ?_); (case hy => rfl); go_simp; refine hK _ _ ?_; clear hK K) | (refine q_pure_y rfl ?hy (fun K hK => ?_); (case hy => rfl); go_simp; refine hK _ _ ?_; clear hK K)
  (refine q_pure_n rfl (fun K hK => ?_); go_simp; refine hK _ _ ?_; clear hK K)
  (refine q_pure_n rfl (fun K hK => ?_); go_simp; refine hK _ _ ?_; clear hK K)
  first | (refine q_pure_x rfl ?hy (fun K hK => ?_); (case hy => rfl); go_simp; refine hK _ _ ?_; clear hK K) | (refine q_pure_u rfl ?hy (fun K hK => ?_); (case hy => rfl); go_simp; refine hK _ _ ?_; clear hK K) | (refine q_pure_y rfl ?hy (fun K hK => ?_); (case hy => rfl); go_simp; refine hK _ _ ?_; clear hK K)
  first | (refine q_pure_x rfl ?hy (fun K hK => ?_); (case hy => rfl); go_simp; refine hK _ _ ?_; clear hK K) | (refine q_pure_u rfl ?hy (fun K hK => ?_); (case hy => rfl); go_simp; refine hK _ _ ?_; clear hK K) | (refine q_pure_y rfl ?hy (fun K hK => ?_); (case hy => rfl); go_simp; refine hK _ _ ?_; clear hK K)
  first | (refine q_read_x rfl ?hy (fun K hK => ?_); (case hy => rfl); go_simp; refine hK _ _ ?_; clear hK K) | (refine q_read_u rfl ?hy (fun K hK => ?_); (case hy => rfl); go_simp; refine hK _ _ ?_; clear hK K) | (refine q_read_y rfl ?hy (fun K hK => ?_); (case hy => rfl); go_simp; refine hK _ _ ?_; clear hK K)
  first | (refine q_pure_x rfl ?hy (fun K hK => ?_); (case hy => rfl); go_simp; refine hK _ _ ?_; clear hK K) | (refine q_pure_u rfl ?hy (fun K hK => ?_); (case hy => rfl); go_simp; refine hK _ _ ?_; clear hK K) | (refine q_pure_y rfl ?hy (fun K hK => ?_); (case hy => rfl); go_simp; refine hK _ _ ?_; clear hK K)
  (refine q_pure_n rfl (fun K hK => ?_); go_simp; refine hK _ _ ?_; clear hK K)
  (refine q_pure_n rfl (fun K hK => ?_); go_simp; refine hK _ _ ?_; clear hK K)
  first | (refine q_pure_x rfl ?hy (fun K hK => ?_); (case hy => rfl); go_simp; refine hK _ _ ?_; clear hK K) | (refine q_pure_u rfl ?hy (fun K hK => ?_); (case hy => rfl); go_simp; refine hK _ _ ?_; clear hK K) | (refine q_pure_y rfl ?hy (fun K hK => ?_); (case hy => rfl); go_simp; refine hK _ _ ?_; clear hK K)
  first | (refine q_pure_x rfl ?hy (fun K hK => ?_); (case hy => rfl); go_simp; refine hK _ _ ?_; clear hK K) | (refine q_pure_u rfl ?hy (fun K hK => ?_); (case hy => rfl); go_simp; refine hK _ _ ?_; clear hK K) | (refine q_pure_y rfl ?hy (fun K hK => ?_); (case hy => rfl); go_simp; refine hK _ _ ?_; clear hK K)
  first | (refine q_read_x rfl ?hy (fun K hK => ?_); (case hy => rfl); go_simp; refine hK _ _ ?_; clear hK K) | (refine q_read_u rfl ?hy (fun K hK => ?_); (case hy => rfl); go_simp; refine hK _ _ ?_; clear hK K) | (refine q_read_y rfl ?hy (fun K hK => ?_); (case hy => rfl); go_simp; refine hK _ _ ?_; clear hK K)
  first | (refine q_pure_x rfl ?hy (fun K hK => ?_); (case hy => rfl); go_simp; refine hK _ _ ?_; clear hK K) | (refine q_pure_u rfl ?hy (fun K hK => ?_); (case hy => rfl); go_simp; refine hK _ _ ?_; clear hK K) | (refine q_pure_y rfl ?hy (fun K hK => ?_); (case hy => rfl); go_simp; refine hK _ _ ?_; clear hK K)
  (refine q_pure_n rfl (fun K hK => ?_); go_simp; refine hK _ _ ?_; clear hK K)
  (refine q_pure_n rfl (fun K hK => ?_); go_simp; refine hK _ _ ?_; clear hK K)
  first | (refine q_pure_x rfl ?hy (fun K hK => ?_); (case hy => rfl); go_simp; refine hK _ _ ?_; clear hK K) | (refine q_pure_u rfl ?hy (fun K hK => ?_); (case hy => rfl); go_simp; refine hK _ _ ?_; clear hK K) | (refine q_pure_y rfl ?hy (fun K hK => ?_); (case hy => rfl); go_simp; refine hK _ _ ?_; clear hK K)
  first | (refine q_read_x rfl ?hy (fun K hK => ?_); (case hy => rfl); go_simp; refine hK _ _ ?_; clear hK K) | (refine q_read_u rfl ?hy (fun K hK => ?_); (case hy => rfl); go_simp; refine hK _ _ ?_; clear hK K) | (refine q_read_y rfl ?hy (fun K hK => ?_); (case hy => rfl); go_simp; refine hK _ _ ?_; clear hK K)
  first | (refine q_write_x rfl ?hy (fun K hK => ?_); (case hy => rfl); go_simp; refine hK _ _ ?_; clear hK K) | (refine q_write_u rfl ?hy (fun K hK => ?_); (case hy => rfl); go_simp; refine hK _ _ ?_; clear hK K) | (refine q_write_y rfl ?hy (fun K hK => ?_); (case hy => rfl); go_simp; intro nw; fail; refine ⟨_, rfl, _, ⟨_, rfl⟩, hK _ _ ?_⟩; clear hK K)
  (refine q_pure_n rfl (fun K hK => ?_); go_simp; refine hK _ _ ?_; clear hK K)
  (refine q_pure_n rfl (fun K hK => ?_); go_simp; refine hK _ _ ?_; clear hK K)
  first | (refine q_pure_x rfl ?hy (fun K hK => ?_); (case hy => rfl); go_simp; refine hK _ _ ?_; clear hK K) | (refine q_pure_u rfl ?hy (fun K hK => ?_); (case hy => rfl); go_simp; refine hK _ _ ?_; clear hK K) | (refine q_pure_y rfl ?hy (fun K hK => ?_); (case hy => rfl); go_simp; refine hK _ _ ?_; clear hK K)
  first | (refine q_pure_x rfl ?hy (fun K hK => ?_); (case hy => rfl); go_simp; refine hK _ _ ?_; clear hK K) | (refine q_pure_u rfl ?hy (fun K hK => ?_); (case hy => rfl); go_simp; refine hK _ _ ?_; clear hK K) | (refine q_pure_y rfl ?hy (fun K hK => ?_); (case hy => rfl); go_simp; refine hK _ _ ?_; clear hK K)
  first | (refine q_read_x rfl ?hy (fun K hK => ?_); (case hy => rfl); go_simp; refine hK _ _ ?_; clear hK K) | (refine q_read_u rfl ?hy (fun K hK => ?_); (case hy => rfl); go_simp; refine hK _ _ ?_; clear hK K) | (refine q_read_y rfl ?hy (fun K hK => ?_); (case hy => rfl); go_simp; refine hK _ _ ?_; clear hK K)
  first | (refine q_pure_x rfl ?hy (fun K hK => ?_); (case hy => rfl); go_simp; refine hK _ _ ?_; clear hK K) | (refine q_pure_u rfl ?hy (fun K hK => ?_); (case hy => rfl); go_simp; refine hK _ _ ?_; clear hK K) | (refine q_pure_y rfl ?hy (fun K hK => ?_); (case hy => rfl); go_simp; refine hK _ _ ?_; clear hK K)
  first | (refine q_pure_x rfl ?hy (fun K hK => ?_); (case hy => rfl); go_simp; refine hK _ _ ?_; clear hK K) | (refine q_pure_u rfl ?hy (fun K hK => ?_); (case hy => rfl); go_simp; refine hK _ _ ?_; clear hK K) | (refine q_pure_y rfl ?hy (fun K hK => ?_); (case hy => rfl); go_simp; refine hK _ _ ?_; clear hK K)
  first | (refine q_read_x rfl ?hy (fun K hK => ?_); (case hy => rfl); go_simp; refine hK _ _ ?_; clear hK K) | (refine q_read_u rfl ?hy (fun K hK => ?_); (case hy => rfl); go_simp; refine hK _ _ ?_; clear hK K) | (refine q_read_y rfl ?hy (fun K hK => ?_); (case hy => rfl); go_simp; refine hK _ _ ?_; clear hK K)
  first | (refine q_pure_x rfl ?hy (fun K hK => ?_); (case hy => rfl); go_simp; refine hK _ _ ?_; clear hK K) | (refine q_pure_u rfl ?hy (fun K hK => ?_); (case hy => rfl); go_simp; refine hK _ _ ?_; clear hK K) | (refine q_pure_y rfl ?hy (fun K hK => ?_); (case hy => rfl); go_simp; refine hK _ _ ?_; clear hK K)
  first | (refine q_read_x rfl ?hy (fun K hK => ?_); (case hy => rfl); go_simp; refine hK _ _ ?_; clear hK K) | (refine q_read_u rfl ?hy (fun K hK => ?_); (case hy => rfl); go_simp; refine hK _ _ ?_; clear hK K) | (refine q_read_y rfl ?hy (fun K hK => ?_); (case hy => rfl); go_simp; refine hK _ _ ?_; clear hK K)
  first | (refine q_write_x rfl ?hy (fun K hK => ?_); (case hy => rfl); go_simp; refine hK _ _ ?_; clear hK K) | (refine q_write_u rfl ?hy (fun K hK => ?_); (case hy => rfl); go_simp; refine hK _ _ ?_; clear hK K) | (refine q_write_y rfl ?hy (fun K hK => ?_); (case hy => rfl); go_simp; intro nw; fail; refine ⟨_, rfl, _, ⟨_, rfl⟩, hK _ _ ?_⟩; clear hK K)
  (refine q_pure_n rfl (fun K hK => ?_); go_simp; refine hK _ _ ?_; clear hK K)
  (refine q_pure_n rfl (fun K hK => ?_); go_simp; refine hK _ _ ?_; clear hK K)
  refine q_nil ?_
  intro nq
  go_wp2_with fail
  go_ret
  refine ⟨ret_no ?_, below_drewN ((Below.refl _ w).alloc (Nat.le_refl _) _) _⟩
  exact fun h => H3.out h.2.1
set_option maxHeartbeats 4000000 in
set_option maxRecDepth 100000 in
set_option linter.unusedVariables false in
theorem fine_no4 (it : It) (c : Cl) (ab : Nat) (w : World) (hv : ValAt w w.heap.size c it.val) (hB : VaB it.val) (hab : w.heap[ab]? = some (.cells kindsA 59 (0, 0))) (h1 : ¬ it.db < 0) (h2 : it.db < 16) (h3 : MayP it.key) (h4 : it.dead < 0) : Asks 19 #[iV it c, .pointer (some ⟨ab, 0, none⟩)] w (FineP it) := by
  unfold Asks
  have hv0 : ∀ n, (Instr.loadAt 31 (.pointer (some ⟨w.heap.size, 2, none⟩))).run Try.prog ((w.alloc (iO it c)).drewN n) = .ok (vV it.val c) ((w.alloc (iO it c)).drewN n) := fun n => load_val it c _ w.heap.size (heap_alloc_new w _)
  have HV := Lib.hid hv
  have HVB := Lib.hid hB
  have HAB := Lib.hid hab
  have HAL := Lib.hid (show ab < w.heap.size from (Array.getElem?_eq_some_iff.1 hab).1)
  have q1 : decide (it.db < 0) = false := by simpa using h1
  have q2 : decide (it.db < 16) = true := by simpa using h2
  have H3 := Lib.hid h3
  have q4 : decide (0 ≤ it.dead) = false := by simpa using h4
  clear hv hB hab h3
  go_enter Try.func19, Try.ntmps19
  go_wp2_with fail
  refine wp_region_q [0,1,0,0,0,1,0,0,0,0,1,1,0,0,0,1,0,0,0,0,1,0,0,0,0,0,1,0,0,0,0,0,1,0,0,0,0,1,2,0,0,0,0,1,0,0,1,0,1,2,0,0] (by kernel_rfl) (by kernel_rfl) ?_
  (refine q_pure_n rfl (fun K hK => ?_); go_simp; refine hK _ _ ?_; clear hK K)
  (refine q_read_n rfl (fun K hK => ?_); go_simp; refine hK _ _ ?_; clear hK K)
  (refine q_pure_n rfl (fun K hK => ?_); go_simp; refine hK _ _ ?_; clear hK K)
  (refine q_pure_n rfl (fun K hK => ?_); go_simp; refine hK _ _ ?_; clear hK K)
  first | (refine q_pure_x rfl ?hy (fun K hK => ?_); (case hy => rfl); go_simp; refine hK _ _ ?_; clear hK K) | (refine q_pure_u rfl ?hy (fun K hK => ?_); (case hy => rfl); go_simp; refine hK _ _ ?_; clear hK K) | (refine q_pure_y rfl ?hy (fun K hK => ?_); (case hy => rfl); go_simp; refine hK _ _ ?_; clear hK K)
  first | (refine q_read_x rfl ?hy (fun K hK => ?_); (case hy => rfl); go_simp; refine hK _ _ ?_; clear hK K) | (refine q_read_u rfl ?hy (fun K hK => ?_); (case hy => rfl); go_simp; refine hK _ _ ?_; clear hK K) | (refine q_read_y rfl ?hy (fun K hK => ?_); (case hy => rfl); go_simp; refine hK _ _ ?_; clear hK K)
  first | (refine q_pure_x rfl ?hy (fun K hK => ?_); (case hy => rfl); go_simp; refine hK _ _ ?_; clear hK K) | (refine q_pure_u rfl ?hy (fun K hK => ?_); (case hy => rfl); go_simp; refine hK _ _ ?_; clear hK K) | (refine q_pure_y rfl ?hy (fun K hK => ?_); (case hy => rfl); go_simp; refine hK _ _ ?_; clear hK K)
  (refine q_pure_n rfl (fun K hK => ?_); go_simp; refine hK _ _ ?_; clear hK K)
  (refine q_pure_n rfl (fun K hK => ?_); go_simp; refine hK _ _ ?_; clear hK K)
  first | (refine q_pure_x rfl ?hy (fun K hK => ?_); (case hy => rfl); go_simp; refine hK _ _ ?_; clear hK K) | (refine q_pure_u rfl ?hy (fun K hK => ?_); (case hy => rfl); go_simp; refine hK _ _ ?_; clear hK K) | (refine q_pure_y rfl ?hy (fun K hK => ?_); (case hy => rfl); go_simp; refine hK _ _ ?_; clear hK K)
  first | (refine q_read_x rfl ?hy (fun K hK => ?_); (case hy => rfl); go_simp; refine hK _ _ ?_; clear hK K) | (refine q_read_u rfl ?hy (fun K hK => ?_); (case hy => rfl); go_simp; refine hK _ _ ?_; clear hK K) | (refine q_read_y rfl ?hy (fun K hK => ?_); (case hy => rfl); go_simp; refine hK _ _ ?_; clear hK K)
  first | (refine q_read_x rfl ?hy (fun K hK => ?_); (case hy => rfl); go_simp; refine hK _ _ ?_; clear hK K) | (refine q_read_u rfl ?hy (fun K hK => ?_); (case hy => rfl); go_simp; refine hK _ _ ?_; clear hK K) | (refine q_read_y rfl ?hy (fun K hK => ?_); (case hy => rfl); go_simp; apply Exists.intro; refine ⟨fun nw => ?_, hK _ _ ?_⟩; (exact read_same (may_yes H3.out _)); clear hK K)
  (refine q_pure_n rfl (fun K hK => ?_); go_simp; refine hK _ _ ?_; clear hK K)
  (refine q_pure_n rfl (fun K hK => ?_); go_simp; refine hK _ _ ?_; clear hK K)
  first | (refine q_pure_x rfl ?hy (fun K hK => ?_); (case hy => rfl); go_simp; refine hK _ _ ?_; clear hK K) | (refine q_pure_u rfl ?hy (fun K hK => ?_); (case hy => rfl); go_simp; refine hK _ _ ?_; clear hK K) | (refine q_pure_y rfl ?hy (fun K hK => ?_); (case hy => rfl); go_simp; refine hK _ _ ?_; clear hK K)
  first | (refine q_read_x rfl ?hy (fun K hK => ?_); (case hy => rfl); go_simp; refine hK _ _ ?_; clear hK K) | (refine q_read_u rfl ?hy (fun K hK => ?_); (case hy => rfl); go_simp; refine hK _ _ ?_; clear hK K) | (refine q_read_y rfl ?hy (fun K hK => ?_); (case hy => rfl); go_simp; refine hK _ _ ?_; clear hK K)
  first | (refine q_pure_x rfl ?hy (fun K hK => ?_); (case hy => rfl); go_simp; refine hK _ _ ?_; clear hK K) | (refine q_pure_u rfl ?hy (fun K hK => ?_); (case hy => rfl); go_simp; refine hK _ _ ?_; clear hK K) | (refine q_pure_y rfl ?hy (fun K hK => ?_); (case hy => rfl); go_simp; refine hK _ _ ?_; clear hK K)
  (refine q_pure_n rfl (fun K hK => ?_); go_simp; refine hK _ _ ?_; clear hK K)
  (refine q_pure_n rfl (fun K hK => ?_); go_simp; refine hK _ _ ?_; clear hK K)
  first | (refine q_pure_x rfl ?hy (fun K hK => ?_); (case hy => rfl); go_simp; refine hK _ _ ?_; clear hK K) | (refine q_pure_u rfl ?hy (fun K hK => ?_); (case hy => rfl); go_simp; refine hK _ _ ?_; clear hK K) | (refine q_pure_y rfl ?hy (fun K hK => ?_); (case hy => rfl); go_simp; refine hK _ _ ?_; clear hK K)
  first | (refine q_read_x rfl ?hy (fun K hK => ?_); (case hy => rfl); go_simp; refine hK _ _ ?_; clear hK K) | (refine q_read_u rfl ?hy (fun K hK => ?_); (case hy => rfl); go_simp; refine hK _ _ ?_; clear hK K) | (refine q_read_y rfl ?hy (fun K hK => ?_); (case hy => rfl); go_simp; refine hK _ _ ?_; clear hK K)
  first | (refine q_pure_x rfl ?hy (fun K hK => ?_); (case hy => rfl); go_simp; refine hK _ _ ?_; clear hK K) | (refine q_pure_u rfl ?hy (fun K hK => ?_); (case hy => rfl); go_simp; refine hK _ _ ?_; clear hK K) | (refine q_pure_y rfl ?hy (fun K hK => ?_); (case hy => rfl); go_simp; refine hK _ _ ?_; clear hK K)
  (refine q_pure_n rfl (fun K hK => ?_); go_simp; refine hK _ _ ?_; clear hK K)
  (refine q_pure_n rfl (fun K hK => ?_); go_simp; refine hK _ _ ?_; clear hK K)
  first | (refine q_pure_x rfl ?hy (fun K hK => ?_); (case hy => rfl); go_simp; refine hK _ _ ?_; clear hK K) | (refine q_pure_u rfl ?hy (fun K hK => ?_); (case hy => rfl); go_simp; refine hK _ _ ?_; clear hK K) | (refine q_pure_y rfl ?hy (fun K hK => ?_); (case hy => rfl); go_simp; refine hK _ _ ?_; clear hK K)
  first | (refine q_pure_x rfl ?hy (fun K hK => ?_); (case hy => rfl); go_simp; refine hK _ _ ?_; clear hK K) | (refine q_pure_u rfl ?hy (fun K hK => ?_); (case hy => rfl); go_simp; refine hK _ _ ?_; clear hK K) | (refine q_pure_y rfl ?hy (fun K hK => ?_); (case hy => rfl); go_simp; refine hK _ _ ?_; clear hK K)
  first | (refine q_read_x rfl ?hy (fun K hK => ?_); (case hy => rfl); go_simp; refine hK _ _ ?_; clear hK K) | (refine q_read_u rfl ?hy (fun K hK => ?_); (case hy => rfl); go_simp; refine hK _ _ ?_; clear hK K) | (refine q_read_y rfl ?hy (fun K hK => ?_); (case hy => rfl); go_simp; refine hK _ _ ?_; clear hK K)
  first | (refine q_pure_x rfl ?hy (fun K hK => ?_); (case hy => rfl); go_simp; refine hK _ _ ?_; clear hK K) | (refine q_pure_u rfl ?hy (fun K hK => ?_); (case hy => rfl); go_simp; refine hK _ _ ?_; clear hK K) | (refine q_pure_y rfl ?hy (fun K hK => ?_); (case hy => rfl); go_simp; refine hK _ _ ?_; clear hK K)
  (refine q_pure_n rfl (fun K hK => ?_); go_simp; refine hK _ _ ?_; clear hK K)
  (refine q_pure_n rfl (fun K hK => ?_); go_simp; refine hK _ _ ?_; clear hK K)
  first | (refine q_pure_x rfl ?hy (fun K hK => ?_); (case hy => rfl); go_simp; refine hK _ _ ?_; clear hK K) | (refine q_pure_u rfl ?hy (fun K hK => ?_); (case hy => rfl); go_simp; refine hK _ _ ?_; clear hK K) | (refine q_pure_y rfl ?hy (fun K hK => ?_); (case hy => rfl); go_simp; refine hK _ _ ?_; clear hK K)
  first | (refine q_pure_x rfl ?hy (fun K hK => ?_); (case hy => rfl); go_simp; refine hK _ _ ?_; clear hK K) | (refine q_pure_u rfl ?hy (fun K hK => ?_); (case hy => rfl); go_simp; refine hK _ _ ?_; clear hK K) | (refine q_pure_y rfl ?hy (fun K hK => ?_); (case hy => rfl); go_simp; refine hK _ _ ?_; clear hK K)
  first | (refine q_read_x rfl ?hy (fun K hK => ?_); (case hy => rfl); go_simp; refine hK _ _ ?_; clear hK K) | (refine q_read_u rfl ?hy (fun K hK => ?_); (case hy => rfl); go_simp; refine hK _ _ ?_; clear hK K) | (refine q_read_y rfl ?hy (fun K hK => ?_); (case hy => rfl); go_simp; refine hK _ _ ?_; clear hK K)
  first | (refine q_pure_x rfl ?hy (fun K hK => ?_); (case hy => rfl); go_simp; refine hK _ _ ?_; clear hK K) | (refine q_pure_u rfl ?hy (fun K hK => ?_); (case hy => rfl); go_simp; refine hK _ _ ?_; clear hK K) | (refine q_pure_y rfl ?hy (fun K hK => ?_); (case hy => rfl); go_simp; refine hK _ _ ?_; clear hK K)
  (refine q_pure_n rfl (fun K hK => ?_); go_simp; refine hK _ _ ?_; clear hK K)
  (refine q_pure_n rfl (fun K hK => ?_); go_simp; refine hK _ _ ?_; clear hK K)
  first | (refine q_pure_x rfl ?hy (fun K hK => ?_); (case hy => rfl); go_simp; refine hK _ _ ?_; clear hK K) | (refine q_pure_u rfl ?hy (fun K hK => ?_); (case hy => rfl); go_simp; refine hK _ _ ?_; clear hK K) | (refine q_pure_y rfl ?hy (fun K hK => ?_); (case hy => rfl); go_simp; refine hK _ _ ?_; clear hK K)
  first | (refine q_read_x rfl ?hy (fun K hK => ?_); (case hy => rfl); go_simp; refine hK _ _ ?_; clear hK K) | (refine q_read_u rfl ?hy (fun K hK => ?_); (case hy => rfl); go_simp; refine hK _ _ ?_; clear hK K) | (refine q_read_y rfl ?hy (fun K hK => ?_); (case hy => rfl); go_simp; refine hK _ _ ?_; clear hK K)
  first | (refine q_write_x rfl ?hy (fun K hK => ?_); (case hy => rfl); go_simp; refine hK _ _ ?_; clear hK K) | (refine q_write_u rfl ?hy (fun K hK => ?_); (case hy => rfl); go_simp; refine hK _ _ ?_; clear hK K) | (refine q_write_y rfl ?hy (fun K hK => ?_); (case hy => rfl); go_simp; intro nw; fail; refine ⟨_, rfl, _, ⟨_, rfl⟩, hK _ _ ?_⟩; clear hK K)
  (refine q_pure_n rfl (fun K hK => ?_); go_simp; refine hK _ _ ?_; clear hK K)
  (refine q_pure_n rfl (fun K hK => ?_); go_simp; refine hK _ _ ?_; clear hK K)
  first | (refine q_pure_x rfl ?hy (fun K hK => ?_); (case hy => rfl); go_simp; refine hK _ _ ?_; clear hK K) | (refine q_pure_u rfl ?hy (fun K hK => ?_); (case hy => rfl); go_simp; refine hK _ _ ?_; clear hK K) | (refine q_pure_y rfl ?hy (fun K hK => ?_); (case hy => rfl); go_simp; refine hK _ _ ?_; clear hK K)
  first | (refine q_pure_x rfl ?hy (fun K hK => ?_); (case hy => rfl); go_simp; refine hK _ _ ?_; clear hK K) | (refine q_pure_u rfl ?hy (fun K hK => ?_); (case hy => rfl); go_simp; refine hK _ _ ?_; clear hK K) | (refine q_pure_y rfl ?hy (fun K hK => ?_); (case hy => rfl); go_simp; refine hK _ _ ?_; clear hK K)
  first | (refine q_read_x rfl ?hy (fun K hK => ?_); (case hy => rfl); go_simp; refine hK _ _ ?_; clear hK K) | (refine q_read_u rfl ?hy (fun K hK => ?_); (case hy => rfl); go_simp; refine hK _ _ ?_; clear hK K) | (refine q_read_y rfl ?hy (fun K hK => ?_); (case hy => rfl); go_simp; refine hK _ _ ?_; clear hK K)
  first | (refine q_pure_x rfl ?hy (fun K hK => ?_); (case hy => rfl); go_simp; refine hK _ _ ?_; clear hK K) | (refine q_pure_u rfl ?hy (fun K hK => ?_); (case hy => rfl); go_simp; refine hK _ _ ?_; clear hK K) | (refine q_pure_y rfl ?hy (fun K hK => ?_); (case hy => rfl); go_simp; refine hK _ _ ?_; clear hK K)
  first | (refine q_pure_x rfl ?hy (fun K hK => ?_); (case hy => rfl); go_simp; refine hK _ _ ?_; clear hK K) | (refine q_pure_u rfl ?hy (fun K hK => ?_); (case hy => rfl); go_simp; refine hK _ _ ?_; clear hK K) | (refine q_pure_y rfl ?hy (fun K hK => ?_); (case hy => rfl); go_simp; refine hK _ _ ?_; clear hK K)
  first | (refine q_read_x rfl ?hy (fun K hK => ?_); (case hy => rfl); go_simp; refine hK _ _ ?_; clear hK K) | (refine q_read_u rfl ?hy (fun K hK => ?_); (case hy => rfl); go_simp; refine hK _ _ ?_; clear hK K) | (refine q_read_y rfl ?hy (fun K hK => ?_); (case hy => rfl); go_simp; refine hK _ _ ?_; clear hK K)
  first | (refine q_pure_x rfl ?hy (fun K hK => ?_); (case hy => rfl); go_simp; refine hK _ _ ?_; clear hK K) | (refine q_pure_u rfl ?hy (fun K hK => ?_); (case hy => rfl); go_simp; refine hK _ _ ?_; clear hK K) | (refine q_pure_y rfl ?hy (fun K hK => ?_); (case hy => rfl); go_simp; refine hK _ _ ?_; clear hK K)
  first | (refine q_read_x rfl ?hy (fun K hK => ?_); (case hy => rfl); go_simp; refine hK _ _ ?_; clear hK K) | (refine q_read_u rfl ?hy (fun K hK => ?_); (case hy => rfl); go_simp; refine hK _ _ ?_; clear hK K) | (refine q_read_y rfl ?hy (fun K hK => ?_); (case hy => rfl); go_simp; refine hK _ _ ?_; clear hK K)
  first | (refine q_write_x rfl ?hy (fun K hK => ?_); (case hy => rfl); go_simp; refine hK _ _ ?_; clear hK K) | (refine q_write_u rfl ?hy (fun K hK => ?_); (case hy => rfl); go_simp; refine hK _ _ ?_; clear hK K) | (refine q_write_y rfl ?hy (fun K hK => ?_); (case hy => rfl); go_simp; intro nw; fail; refine ⟨_, rfl, _, ⟨_, rfl⟩, hK _ _ ?_⟩; clear hK K)
  (refine q_pure_n rfl (fun K hK => ?_); go_simp; refine hK _ _ ?_; clear hK K)
  (refine q_pure_n rfl (fun K hK => ?_); go_simp; refine hK _ _ ?_; clear hK K)
  refine q_nil ?_
  intro nq
  go_wp2_with fail
  go_ret
  refine ⟨ret_no ?_, below_drewN ((Below.refl _ w).alloc (Nat.le_refl _) _) _⟩
  exact fun h => by have := h.2.2.1.1; omega
end Go.Proofs.Ytpnmhldaaaemeaa.Snp
