/- Chapter 09: math's NaN and Inf; one float is the same as itself. -/
import Derived.Test.YtmlaackdcnpjmaaDoorSkM09
namespace Go.Proofs.YtmlaackdcnpjmaaDoor.Skp
open Go Go.RowKit Go.Proofs.YtmlaackdcnpjmaaDoor.Pin Go.Proofs.YtmlaackdcnpjmaaDoor.Flt
theorem call_frombits (x : Nat) (w : World) : (callFunc 31 #[.int .u64 (x : Int)]).run Tryd.prog w = .ok (.value (.float .f64 x)) w := by kernel_rfl
theorem call_bits (x : Nat) (w : World) : (callFunc 37 #[.float .f64 x]).run Tryd.prog w = .ok (.value (.int .u64 (x : Int))) w := by kernel_rfl
def nanF : Nat := 9221120237041090561
def infF : Nat := 9218868437227405312
def negF : Nat := 18442240474082181120
theorem xnan_any (w : World) : Calls Tryd.prog 22 #[] w fun e w' => e = .returned (.float .f64 nanF) ∧ w = w' := by
  have hc : ∀ W : World, (callFunc 31 #[.int .u64 9221120237041090561]).run Tryd.prog W = .ok (.value (.float .f64 9221120237041090561)) W := fun W => by kernel_rfl
  go_enter Tryd.func22, Tryd.ntmps22
  go_wp2_with fail
  go_ret
  exact ⟨rfl, rfl⟩
theorem inf_neg (w : World) : Calls Tryd.prog 16 #[.int .i64 (-1)] w fun e w' => e = .returned (.float .f64 negF) ∧ w = w' := by
  have hc : ∀ W : World, (callFunc 31 #[.int .u64 18442240474082181120]).run Tryd.prog W = .ok (.value (.float .f64 18442240474082181120)) W := fun W => by kernel_rfl
  go_enter Tryd.func16, Tryd.ntmps16
  go_wp2_with fail
  go_ret
  exact ⟨rfl, rfl⟩
theorem inf_pos (w : World) : Calls Tryd.prog 16 #[.int .i64 1] w fun e w' => e = .returned (.float .f64 infF) ∧ w = w' := by
  have hc : ∀ W : World, (callFunc 31 #[.int .u64 9218868437227405312]).run Tryd.prog W = .ok (.value (.float .f64 9218868437227405312)) W := fun W => by kernel_rfl
  go_enter Tryd.func16, Tryd.ntmps16
  go_wp2_with fail
  go_ret
  exact ⟨rfl, rfl⟩
set_option maxRecDepth 100000 in
theorem same_float_self (a : Nat) (w : World) : Calls Tryd.prog 32 #[.float .f64 a, .float .f64 a] w fun e w' => e = .returned (.bool true) ∧ w = w' := by
  have hc1 := call_bits a
  cases h1 : (FloatKind.f64.format.order a a != some Ordering.eq) with
  | false =>
    go_enter Tryd.func32, Tryd.ntmps32
    go_wp2_with fail
    go_ret
    exact ⟨by simp, rfl⟩
  | true =>
    go_enter Tryd.func32, Tryd.ntmps32
    go_wp2_with fail
    go_ret
    exact ⟨rfl, rfl⟩
end Go.Proofs.YtmlaackdcnpjmaaDoor.Skp
