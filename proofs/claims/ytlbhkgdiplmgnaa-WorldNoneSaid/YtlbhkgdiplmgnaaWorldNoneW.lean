/- The walk of the statement WorldNone: it returns true. -/
import Derived.Test.YtlbhkgdiplmgnaaWldT
namespace Go.Proofs.Ytlbhkgdiplmgnaa.WorldNone
open Go.RowKit Go.Proofs.Ytlbhkgdiplmgnaa.Wld

set_option maxHeartbeats 2000000 in
theorem walk (n d : Int) (w : World) :
    Calls Try.prog 5 #[.agg #[.int .i64 n, .int .u32 d]] w fun e w' => e = .returned (.bool true) ∧ Below w.heap.size w w' := by
  go_enter Try.func5, Try.ntmps5
  go_wp2_with fail
  refine (tell_none _ _ _).mono ?_
  rintro e w1 ⟨rfl, rfl⟩
  obtain ⟨W, hW⟩ : ∃ W, W = (w.alloc (.cells #[.int .i64 n, .int .u32 d] 33)).alloc (.cells #[.bool false, .int .i64 0, .int .u32 0] 49) := ⟨_, rfl⟩
  have hc : W.cell? ⟨w.heap.size + 1, 0, none⟩ = some (.bool false) := by rw [hW]; go_simp
  have h0 : W.cell? ⟨w.heap.size, 0, none⟩ = some (.int .i64 n) := by rw [hW]; go_simp
  have h1 : W.cell? ⟨w.heap.size, 1, none⟩ = some (.int .u32 d) := by rw [hW]; go_simp
  have b1 := Lib.hid (show Below w.heap.size w W by rw [hW]; exact ((Below.refl _ w).alloc (Nat.le_refl _) _).alloc (by go_simp) _)
  rw [← hW]
  clear hW
  go_wp2_with fail
  refine (tell_unmade _ _ _ _ hc).mono ?_
  rintro e w1 ⟨rfl, rfl⟩
  go_wp2_with fail
  refine (now_none _).mono ?_
  rintro e w1 ⟨rfl, rfl⟩
  go_wp2_with fail
  refine (now_unmade _ _ hc).mono ?_
  rintro e w1 ⟨rfl, rfl⟩
  go_wp2_with fail
  refine (draw_none _).mono ?_
  rintro e w1 ⟨rfl, rfl⟩
  go_wp2_with fail
  refine (draw_unmade _ _ hc).mono ?_
  rintro e w1 ⟨rfl, rfl⟩
  go_wp2_with fail
  refine (lives_any _).mono ?_
  rintro e w1 ⟨rfl, b⟩
  go_wp2_with fail
  go_ret
  exact ⟨rfl, b1.out.trans (b.mono b1.out.size)⟩
end Go.Proofs.Ytlbhkgdiplmgnaa.WorldNone
