/- The walk of sum.table: the array holds, at each byte, eight steps of the shift register. -/
import Derived.Test.YthfbjgdigdlliaaProg
import Derived.Test.YthfbjgdigdlliaaU
import Derived.Test.YthfbjgdigdlliaaCrcM
import Derived.KernelRfl
import Derived.Deep.Draws
import Derived.Lib.Hide
import Derived.Deep.WholeRow
namespace Go.Proofs.Ythfbjgdigdlliaa.Sum
open Go.RowKit Go.Proofs.Ythfbjgdigdlliaa.Uw

def zeros : Array Value := Array.replicate 256 (.int .u64 0)

theorem zero_row (w : World) : (zeroValue 35).run Try.prog w = .ok (.agg zeros) w := by kernel_rfl
theorem zeros_size : zeros.size = 256 := by unfold zeros; exact Array.size_replicate

section
variable (P : Program) (t : TypeId) (w : World)
theorem shr1 (a : BitVec 64) : (binOp .shr t (U a) (.int .u64 1)).run P w = .ok (U (a >>> 1)) w := run_shr P t w 1 .u64 a (by decide)
theorem shr8 (a : BitVec 64) : (binOp .shr t (U a) (.int .u64 8)).run P w = .ok (U (a >>> 8)) w := run_shr P t w 8 .u64 a (by decide)
theorem and1 (a : BitVec 64) : (binOp .and t (U a) (.int .u64 1)).run P w = .ok (U (a &&& 1#64)) w := run_and P t w a 1#64
theorem andPoly (a : BitVec 64) : (binOp .and t (.int .u64 10785157014839085493) (U a)).run P w = .ok (U (poly &&& a)) w := run_and P t w poly a
end
attribute [local go_sem high] shr1 and1 andPoly run_xor run_neg run_store_U cells_U zero_row

theorem ofInt_nat (k : Nat) : BitVec.ofInt 64 (k : Int) = BitVec.ofNat 64 k := by rw [BitVec.ofInt_natCast]
theorem conv_int (w : World) (k : Nat) : (convert 3 22 (.int .i64 (k : Int))).run Try.prog w = .ok (U (BitVec.ofNat 64 k)) w := by
  rw [run_ofInt Try.prog w Try.underlying3 Try.underlying22, ofInt_nat]


theorem all_one (C : Array Value) (h : C.all (·.oneCell') = true) : C.all (·.oneCell') = true := h
def One (C : Array Value) : Prop := C.size = 256 ∧ C.all (·.oneCell') = true
theorem info_row : (Try.prog.info? 35).map (·.size) = some 256 := by kernel_rfl


theorem One.set {C : Array Value} (h : One C) (k : Nat) (x : BitVec 64) : One (C.setIfInBounds k (U x)) := by
  obtain ⟨h1, h2⟩ := h
  refine ⟨by simpa using h1, ?_⟩
  rw [Array.all_eq_true_iff_forall_mem] at h2 ⊢
  intro v hv
  rcases Array.mem_or_eq_of_mem_setIfInBounds hv with h | rfl
  · exact h2 v h
  · rfl
theorem Tab.set {C : Array Value} {k : Nat} (hs : One C) (hk : k < 256) (h : ∀ j, j < k → C[j]? = some (U (tb j))) (x : BitVec 64) (hx : x = tb k) :
    ∀ j, j < k + 1 → (C.setIfInBounds k (U x))[j]? = some (U (tb j)) := by
  intro j hj
  subst hx
  rw [Array.getElem?_setIfInBounds]
  by_cases e : k = j
  · subst e; rw [if_pos rfl, if_pos (by rw [hs.1]; exact hk)]
  · rw [if_neg e]; exact h j (by omega)

/-- what the array of the sums holds -/
def IsTab (C : Array Value) : Prop := One C ∧ ∀ j, j < 256 → C[j]? = some (U (tb j))

set_option maxHeartbeats 400000 in
set_option maxRecDepth 100000 in
theorem table_any (w : World) : Calls Try.prog 15 #[] w fun e w' => ∃ C, IsTab C ∧ e = .returned (.agg C) ∧ w' = w.alloc (.cells C 35) := by
  have hcv := conv_int
  go_enter Try.func15, Try.ntmps15
  go_wp2
  go_loopw [3] (fun v wr => ∃ (k : Nat) (C : Array Value), k ≤ 256 ∧ v = .int .i64 k ∧ Hid (One C) ∧ (∀ j, j < k → C[j]? = some (U (tb j))) ∧ wr = w.alloc (.cells C 35)) (fun v _ => 256 - (intOf v).toNat)
  case atStart => exact ⟨0, zeros, by omega, rfl, Lib.hid ⟨zeros_size, by kernel_rfl⟩, fun j h => absurd h (by omega), rfl⟩
  case round =>
    obtain ⟨k, C, hk, rfl, hC, hval, rfl⟩ := hrel
    have Hval := Lib.hid hval
    clear hval
    by_cases hlt : k < 256
    · obtain ⟨x0, hx0⟩ : ∃ x, C[k]? = some x := ⟨_, Array.getElem?_eq_getElem (by rw [hC.out.1]; exact hlt)⟩
      go_wp2
      go_loop [2, 8] (fun c v => ∃ m : Nat, m ≤ 8 ∧ v = .int .i64 m ∧ c = U (citer m (BitVec.ofNat 64 k))) (fun _ v => 8 - (intOf v).toNat)
      case atStart => exact ⟨0, by omega, rfl, rfl⟩
      case round =>
        obtain ⟨m, hm, rfl, rfl⟩ := hrel
        go_wp2
        · exact ⟨⟨m + 1, by omega, by go_num, rfl⟩, by simp [intOf]; omega⟩
        · have e : m = 8 := by omega
          subst e
          refine ⟨⟨k + 1, _, by omega, by go_num, Lib.hid (hC.out.set k _), Tab.set hC.out hlt Hval.out _ rfl, rfl⟩, by simp [intOf]; omega⟩
    · have e : k = 256 := by omega
      subst e
      go_wp2_with (first | (refine wpList_load_row rfl 35 (.tmp 0) rfl w.heap.size rfl 35 C (0, 0) _ (heap_alloc_new w _) Try.underlying35 rfl (by rw [hC.out.1]; exact info_row) ?_) | (refine wpList_store_row rfl 35 (.tmp 0) (.tmp 22) rfl w.heap.size C rfl rfl 35 C (heap_alloc_new w _) (by rw [hC.out.1]; exact info_row) rfl hC.out.2 ?_))
      rw [World.setRow_alloc_new]
      refine bodyPost_ret (v := .agg C) (results_cell_row rfl _ _ w.heap.size 35 C (0, 0) _ rfl (heap_alloc_new w _) Try.underlying35 rfl (by rw [hC.out.1]; exact info_row)) rfl ⟨C, ⟨hC.out, Hval.out⟩, rfl, rfl⟩
end Go.Proofs.Ythfbjgdigdlliaa.Sum
