/- The walks of same (two rows alike) and fault. -/
import Derived.Test.YtpanbijlfijgfaaRefFind18
namespace Go.Proofs.Ytpanbijlfijgfaa.Fnd
open Go.RowKit Go.Proofs.Ytpanbijlfijgfaa.Rws

set_option maxHeartbeats 2000000 in
theorem same_row (n : ByteArray) (a b c d e : Int) (x y z : Bool) (w : World) :
    Calls Try.prog 8 #[.agg #[.string n, .int .i64 a, .int .i64 b, .bool x, .bool y, .int .i64 c, .int .i64 d, .bool z, .int .i64 e], .agg #[.string n, .int .i64 a, .int .i64 b, .bool x, .bool y, .int .i64 c, .int .i64 d, .bool z, .int .i64 e]] w
      fun r w' => r = .returned (.bool true) ∧ Below w.heap.size w w' := by
  go_enter Try.func8, Try.ntmps8
  go_wp2
  go_ret
  exact ⟨by simp, ((Below.refl _ w).alloc (Nat.le_refl _) _).alloc (by simp) _⟩
theorem same_any (o : Option Nat) (w : World) :
    Calls Try.prog 8 #[specO o, specO o] w fun r w' => r = .returned (.bool true) ∧ Below w.heap.size w w' := by
  cases o with
  | some k => exact same_row _ _ _ _ _ _ _ _ _ w
  | none => exact same_row _ _ _ _ _ _ _ _ _ w

theorem rep_info : (Try.prog.info? 39).map (·.size) = some 4 := by kernel_rfl
/-- a reply, as a value -/
def repV (k : Int) (t : ByteArray) : Value := .agg #[.int .u8 k, .string t, .int .i64 0, .slice none 0 0]
set_option maxHeartbeats 400000 in
theorem fault_any (t : ByteArray) (w : World) :
    Calls Try.prog 19 #[.string t] w fun r w' => r = .returned (.tuple #[repV 2 t, .bool true]) ∧ Below w.heap.size w w' := by
  go_enter Try.func19, Try.ntmps19
  go_wp2
  refine bodyPost_ret (v := .tuple #[repV 2 t, .bool true]) ?_ rfl ⟨rfl, (Below.refl _ w).alloc (Nat.le_refl _) _⟩
  exact results_cell_row2 (fn := Try.f19) (p := 2) (u := 3) (ty := 39) rfl _ _ w.heap.size 39 #[.int .u8 2, .string t, .int .i64 0, .slice none 0 0] (0, 0) _ rfl (heap_alloc_last w _) Try.underlying39 rfl rep_info
end Go.Proofs.Ytpanbijlfijgfaa.Fnd
