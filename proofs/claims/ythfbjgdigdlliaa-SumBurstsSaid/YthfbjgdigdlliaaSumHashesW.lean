/- The walk of the statement SumHashes: it returns true. -/
import Derived.Test.YthfbjgdigdlliaaSipM
import Derived.Test.YthfbjgdigdlliaaSumBytesW
namespace Go.Proofs.Ythfbjgdigdlliaa.SumHashes
open Go.RowKit Go.Proofs.Ythfbjgdigdlliaa.Uw Go.Proofs.Ythfbjgdigdlliaa.Sip Go.Proofs.Ythfbjgdigdlliaa.Bey Go.Proofs.Ythfbjgdigdlliaa.SumBytes
attribute [local go_sem high] run_eql eqGuard_U

set_option maxHeartbeats 400000 in
set_option maxRecDepth 100000 in
theorem walk0 (a b : BitVec 64) (s : ByteArray) (w : World) (hr : s.size ≤ 140737488351232) :
    Calls Try.prog 4 #[U a, U b, .string s] w fun e w' => e = .returned (.bool true) ∧ Below w.heap.size w w' := by
  have HR := Lib.hid hr
  have HB := Lib.hid (beyond_one s.size)
  by_cases hbig : 1048576 < s.size
  · have H1 := Lib.hid (one_big _ hbig)
    go_enter Try.func4, Try.ntmps4
    go_wp2_with fail
    refine (HB.out w HR.out).mono ?_
    rintro e w' ⟨rfl, rfl⟩
    rw [H1.out]
    go_wp2
    go_ret
    exact ⟨rfl, (Below.refl _ _).alloc (Nat.le_refl _) _⟩
  · have H1 := Lib.hid (one_small _ hbig)
    have HC := Lib.hid (ref_same a b s.data.toList)
    go_enter Try.func4, Try.ntmps4
    go_wp2_with fail
    refine (HB.out w HR.out).mono ?_
    rintro e w' ⟨rfl, rfl⟩
    rw [H1.out]
    go_wp2_with fail
    refine (sip_any a b s _ hr).mono ?_
    rintro e w1 ⟨rfl, hb1⟩
    go_wp2_with fail
    refine (refSip_any a b s _ hr).mono ?_
    rintro e w2 ⟨rfl, hb2⟩
    rw [HC.out]
    go_wp2
    go_ret
    refine ⟨by simp, ?_⟩
    have h0 := (Below.refl w.heap.size w).alloc (Nat.le_refl _) (.cells #[.int .i64 (s.size : Int)] 3)
    have h1 := h0.trans (hb1.mono (by simp))
    exact h1.trans (hb2.mono h1.size)

theorem wf_u64 {s : Int} (hw : (Lit.int .u64 s).wf = true) : 0 ≤ s ∧ s < 18446744073709551616 := by
  simp only [Lit.wf, IntKind.min, IntKind.max, IntKind.signed, IntKind.bits, Bool.and_eq_true] at hw
  simp at hw
  omega
theorem walk (a : Int) (ha : (Lit.int .u64 a).wf = true) (b : Int) (hb : (Lit.int .u64 b).wf = true) (s : ByteArray) (hr : s.size ≤ 140737488351232) (w : World) :
    Calls Try.prog 4 #[.int .u64 a, .int .u64 b, .string s] w fun e w' => e = .returned (.bool true) ∧ Below w.heap.size w w' := by
  rw [U_int a (wf_u64 ha), U_int b (wf_u64 hb)]
  exact walk0 _ _ s w hr
end Go.Proofs.Ythfbjgdigdlliaa.SumHashes
