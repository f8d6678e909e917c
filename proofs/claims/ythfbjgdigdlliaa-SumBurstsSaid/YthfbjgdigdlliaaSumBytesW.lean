/- The walk of the statement SumBytes: it returns true. -/
import Derived.Test.YthfbjgdigdlliaaCrc
import Derived.Test.YthfbjgdigdlliaaBey
namespace Go.Proofs.Ythfbjgdigdlliaa.SumBytes
open Go.RowKit Go.Proofs.Ythfbjgdigdlliaa.Uw Go.Proofs.Ythfbjgdigdlliaa.Sum Go.Proofs.Ythfbjgdigdlliaa.Bey
attribute [local go_sem high] run_eql eqGuard_U

theorem one_big (n : Nat) (h : 1048576 < n) : beyond 0 [(n : Int)] = true := by simp only [beyond]; rw [if_pos (by omega)]
theorem one_small (n : Nat) (h : ¬ 1048576 < n) : beyond 0 [(n : Int)] = false := by simp only [beyond]; rw [if_neg (by omega)]


theorem one_le (n : Nat) (h : n ≤ 140737488351232) : ∀ x ∈ [(n : Int)], 0 ≤ x ∧ x ≤ 281474976710656 := by
  intro x hx
  rw [List.mem_singleton] at hx
  subst hx
  omega
/-- the bound of one size, as the statements ask it -/
theorem beyond_one (n : Nat) (w : World) (h : n ≤ 140737488351232) :
    Calls Try.prog 7 #[.slice (some ⟨w.heap.size, 0, none⟩) 1 1] (w.alloc (.cells #[.int .i64 (n : Int)] 3)) fun e w' => e = .returned (.bool (beyond 0 [(n : Int)])) ∧ w.alloc (.cells #[.int .i64 (n : Int)] 3) = w' :=
  beyond_any [(n : Int)] 1 w.heap.size _ (by simp) (one_le n h) (fun j hj => by
    have : j = 0 := by simpa using hj
    subst this
    simp)

set_option maxHeartbeats 400000 in
set_option maxRecDepth 100000 in
theorem walk0 (b : ByteArray) (s : BitVec 64) (w : World) (hs : b.size ≤ maxLen) (hr : b.size ≤ 140737488351232) :
    Calls Try.prog 3 #[.string b, U s] w fun e w' => e = .returned (.bool true) ∧ Below w.heap.size w w' := by
  have HR := Lib.hid hr
  have HB := Lib.hid (beyond_one b.size)
  by_cases hbig : 1048576 < b.size
  · have H1 := Lib.hid (one_big _ hbig)
    go_enter Try.func3, Try.ntmps3
    go_wp2_with fail
    refine (HB.out w HR.out).mono ?_
    rintro e w' ⟨rfl, rfl⟩
    rw [H1.out]
    go_wp2
    go_ret
    exact ⟨rfl, (Below.refl _ _).alloc (Nat.le_refl _) _⟩
  · have H1 := Lib.hid (one_small _ hbig)
    have HC := Lib.hid (crc_same 0#64 b.data.toList)
    have HD := Lib.hid (crc_same s b.data.toList)
    go_enter Try.func3, Try.ntmps3
    go_wp2_with fail
    refine (HB.out w HR.out).mono ?_
    rintro e w' ⟨rfl, rfl⟩
    rw [H1.out]
    go_wp2_with fail
    refine (crc_any b _ hs).mono ?_
    rintro e w1 ⟨rfl, hb1⟩
    go_wp2_with fail
    refine (refCrc_any b _ hs).mono ?_
    rintro e w' ⟨rfl, rfl⟩
    rw [HC.out]
    go_wp2_with fail
    refine (more_any s b _ hs).mono ?_
    rintro e w2 ⟨rfl, hb2⟩
    go_wp2_with fail
    refine (refMore_any s b _ hs).mono ?_
    rintro e w' ⟨rfl, rfl⟩
    rw [HD.out]
    go_wp2
    go_ret
    refine ⟨by simp, ?_⟩
    have h0 := (Below.refl w.heap.size w).alloc (Nat.le_refl _) (.cells #[.int .i64 (b.size : Int)] 3)
    have h1 := h0.trans (hb1.mono (by simp))
    exact h1.trans (hb2.mono h1.size)

theorem walk (b : ByteArray) (hr : b.size ≤ 140737488351232) (s : Int) (hw : (Lit.int .u64 s).wf = true) (w : World) :
    Calls Try.prog 3 #[.string b, .int .u64 s] w fun e w' => e = .returned (.bool true) ∧ Below w.heap.size w w' := by
  have hb : 0 ≤ s ∧ s < 18446744073709551616 := by
    simp only [Lit.wf, IntKind.min, IntKind.max, IntKind.signed, IntKind.bits, Bool.and_eq_true] at hw
    simp at hw
    omega
  rw [U_int s hb]
  exact walk0 b _ w (by unfold maxLen; omega) hr
end Go.Proofs.Ythfbjgdigdlliaa.SumBytes
