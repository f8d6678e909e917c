/- The walk of the answers that the document fixes: it returns true; and what the statements on pieces share. -/
import Derived.Test.YthfbjgdigdlliaaSipM
import Derived.Test.YthfbjgdigdlliaaSumBytesW
namespace Go.Proofs.Ythfbjgdigdlliaa.Alive
open Go.RowKit Go.Proofs.Ythfbjgdigdlliaa.Uw Go.Proofs.Ythfbjgdigdlliaa.Sum Go.Proofs.Ythfbjgdigdlliaa.Sip
attribute [local go_sem high] run_eql eqGuard_U

def b9 : ByteArray := ⟨#[49, 50, 51, 52, 53, 54, 55, 56, 57]⟩
def b0 : ByteArray := ⟨#[]⟩
def b8 : ByteArray := ⟨#[0, 1, 2, 3, 4, 5, 6, 7]⟩
theorem ans9 : crcT 0#64 b9.data.toList = 16845390139448941002#64 := by decide +kernel
theorem ans0 : sipP 506097522914230528#64 1084818905618843912#64 b0.data.toList = 8246050544436514353#64 := by decide +kernel
theorem ans8 : sipP 506097522914230528#64 1084818905618843912#64 b8.data.toList = 10661697595502699618#64 := by decide +kernel

theorem crc9 (w : World) : Calls Try.prog 8 #[.string ⟨#[49, 50, 51, 52, 53, 54, 55, 56, 57]⟩] w fun e w' => e = .returned (.int .u64 16845390139448941002) ∧ Below w.heap.size w w' := by
  have h := crc_any b9 w (by decide)
  rw [ans9] at h
  exact h
theorem sip0 (w : World) : Calls Try.prog 12 #[.int .u64 506097522914230528, .int .u64 1084818905618843912, .string ⟨#[]⟩] w fun e w' => e = .returned (.int .u64 8246050544436514353) ∧ Below w.heap.size w w' := by
  have h := sip_any 506097522914230528#64 1084818905618843912#64 b0 w (by decide)
  rw [ans0] at h
  exact h
theorem sip8 (w : World) : Calls Try.prog 12 #[.int .u64 506097522914230528, .int .u64 1084818905618843912, .string ⟨#[0, 1, 2, 3, 4, 5, 6, 7]⟩] w fun e w' => e = .returned (.int .u64 10661697595502699618) ∧ Below w.heap.size w w' := by
  have h := sip_any 506097522914230528#64 1084818905618843912#64 b8 w (by decide)
  rw [ans8] at h
  exact h

set_option maxHeartbeats 400000 in
set_option maxRecDepth 100000 in
theorem alive_any (w : World) : Calls Try.prog 14 #[] w fun e w' => e = .returned (.bool true) ∧ Below w.heap.size w w' := by
  go_enter Try.func14, Try.ntmps14
  go_wp2_with fail
  refine (crc9 w).mono ?_
  rintro e w1 ⟨rfl, b1⟩
  go_wp2_with fail
  refine (sip0 w1).mono ?_
  rintro e w2 ⟨rfl, b2⟩
  go_wp2_with fail
  refine (sip8 w2).mono ?_
  rintro e w3 ⟨rfl, b3⟩
  have b12 := b1.trans (b2.mono b1.size)
  go_wp2_with fail
  go_ret
  exact ⟨rfl, b12.trans (b3.mono b12.size)⟩
end Go.Proofs.Ythfbjgdigdlliaa.Alive
