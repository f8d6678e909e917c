/- A reply as a value; the walk of fault. -/
import Derived.Test.YtpanbijlfijgfaaDoorRefFind18
namespace Go.Proofs.YtpanbijlfijgfaaDoor.Fnd
open Go.RowKit Go.Proofs.YtpanbijlfijgfaaDoor.Rws

theorem rep_info : (Tryd.prog.info? 28).map (·.size) = some 4 := by kernel_rfl
/-- a reply, as a value -/
def repV (k : Int) (t : ByteArray) : Value := .agg #[.int .u8 k, .string t, .int .i64 0, .slice none 0 0]
set_option maxHeartbeats 400000 in
theorem fault_any (t : ByteArray) (w : World) :
    Calls Tryd.prog 19 #[.string t] w fun r w' => r = .returned (.tuple #[repV 2 t, .bool true]) ∧ Below w.heap.size w w' := by
  go_enter Tryd.func19, Tryd.ntmps19
  go_wp2
  refine bodyPost_ret (v := .tuple #[repV 2 t, .bool true]) ?_ rfl ⟨rfl, (Below.refl _ w).alloc (Nat.le_refl _) _⟩
  exact results_cell_row2 (fn := Tryd.f19) (p := 2) (u := 3) (ty := 28) rfl _ _ w.heap.size 28 #[.int .u8 2, .string t, .int .i64 0, .slice none 0 0] (0, 0) _ rfl (heap_alloc_last w _) Tryd.underlying28 rfl rep_info
end Go.Proofs.YtpanbijlfijgfaaDoor.Fnd
