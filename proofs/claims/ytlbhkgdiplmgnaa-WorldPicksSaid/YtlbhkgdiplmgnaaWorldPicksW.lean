/- The walk of the statement WorldPicks: it returns true. -/
import Derived.Test.YtlbhkgdiplmgnaaWldT
namespace Go.Proofs.Ytlbhkgdiplmgnaa.WorldPicks
open Go.RowKit Go.Proofs.Ytlbhkgdiplmgnaa.Wld

set_option maxHeartbeats 1000000 in
theorem walk (d : Int) (hd : (Lit.int .u32 d).wf = true) (n : Int) (hn : (Lit.int .i64 n).wf = true) (w : World) :
    Calls Try.prog 4 #[.int .u32 d, .int .i64 n] w fun e w' => e = .returned (.bool true) ∧ Below w.heap.size w w' := by
  obtain ⟨h0, h1⟩ := wf_u32 hd
  obtain ⟨h2, h3⟩ := wf_i64 hn
  have HP := Lib.hid (fun w => pick_any d n w h0 h1 (by omega))
  have HR := Lib.hid (fun w => ref_pick d n w h0 h1 (by omega))
  obtain ⟨x, hx⟩ : ∃ x : Int, x = if n < 1 then 0 else d % n := ⟨_, rfl⟩
  obtain ⟨y, hy⟩ : ∃ y : Bool, y = if n < 1 then false else true := ⟨_, rfl⟩
  rw [← hx, ← hy] at HP HR
  clear hx hy
  go_enter Try.func4, Try.ntmps4
  go_wp2_with fail
  refine (HP.out _).mono ?_
  rintro e w1 ⟨rfl, rfl⟩
  go_wp2_with fail
  refine (HR.out _).mono ?_
  rintro e w1 ⟨rfl, rfl⟩
  go_wp2_with fail
  refine (lives_any _).mono ?_
  rintro e w1 ⟨rfl, b⟩
  go_wp2_with fail
  go_ret
  exact ⟨rfl, b⟩
end Go.Proofs.Ytlbhkgdiplmgnaa.WorldPicks
