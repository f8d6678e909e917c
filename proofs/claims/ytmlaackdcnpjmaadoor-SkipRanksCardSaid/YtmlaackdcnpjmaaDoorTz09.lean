/- Chapter 09: how many noughts a number ends in: at most 64. -/
import Derived.Test.YtmlaackdcnpjmaaDoorRank09
import Derived.Test.YtmlaackdcnpjmaaDoorU
namespace Go.Proofs.YtmlaackdcnpjmaaDoor.Skp
open Go Go.RowKit Go.Proofs.YtmlaackdcnpjmaaDoor.Pin Go.Proofs.YtmlaackdcnpjmaaDoor.Flt Go.Proofs.YtmlaackdcnpjmaaDoor.Uw
/-- the library's table of 64 bytes lies where the program has it -/
def Tab (w : World) : Prop := ∀ j, j < 64 → ∃ v : Nat, v < 64 ∧ w.cell? ⟨1, j, none⟩ = some (.int .u8 (v : Int))
theorem Tab.below {w w' : World} (h : Tab w) (hb : Below w.heap.size w w') : Tab w' := fun j hj => by
  obtain ⟨v, h1, h2⟩ := h j hj
  exact ⟨v, h1, (hb.cell (p := ⟨1, j, none⟩) (World.block_lt_of_cell? w ⟨1, j, none⟩ h2)).trans h2⟩
section
variable (P : Program) (t : TypeId) (w : World)
theorem tzEq (a : BitVec 64) : (binOp .eql t (U a) (.int .u64 0)).run P w = .ok (.bool (a == 0#64)) w := run_eql P t w a 0#64
theorem tzMul (a : BitVec 64) : (binOp .mul t (U a) (.int .u64 285870213051353865)).run P w = .ok (U (a * 285870213051353865#64)) w := run_mul P t w a 285870213051353865#64
theorem tzShr (a : BitVec 64) : (binOp .shr t (U a) (.int .u64 58)).run P w = .ok (U (a >>> 58)) w := run_shr P t w 58 .u64 a (by decide)
end
theorem shr58_lt (z : BitVec 64) : (z >>> 58).toNat < 64 := by
  rw [BitVec.toNat_ushiftRight, Nat.shiftRight_eq_div_pow]
  have := z.isLt
  omega
def nU (y : BitVec 64) : Nat := y.toNat
theorem idx58 (w : World) (z : BitVec 64) : (Instr.indexAt 78 (.pointer (some ⟨1, 0, none⟩)) (U (z >>> 58))).run Tryd.prog w = .ok (.pointer (some ⟨1, nU (z >>> 58), none⟩)) w := by
  unfold nU
  have hx := shr58_lt z
  have ha : (⟨1, 0, none⟩ : Addr).add (z >>> 58).toNat = ⟨1, (z >>> 58).toNat, none⟩ := by unfold Addr.add; split <;> simp_all
  unfold Instr.indexAt
  simp only [asIntOf_U, run_underlying Tryd.underlying78, Instr.sureAddr, Sem.run_bind, Sem.run_pure, Result.andThen_ok]
  generalize (z >>> 58).toNat = k at hx ha
  simp [ha]
  omega
attribute [local go_sem high] run_neg run_and tzMul tzShr tzEq eqGuard_U idx58
def TzP (e : Ending) : Prop := ∃ k : Nat, k ≤ 64 ∧ e = .returned (.int .i64 (k : Int))
set_option maxRecDepth 100000 in
theorem tz_any (x : BitVec 64) (w : World) (hT : Tab w) : Calls Tryd.prog 33 #[U x] w fun e w' => TzP e ∧ w = w' := by
  cases h : (x == 0#64) with
  | true =>
    go_enter Tryd.func33, Tryd.ntmps33
    go_wp2_with fail
    go_ret
    exact ⟨⟨64, Nat.le_refl _, rfl⟩, rfl⟩
  | false =>
    obtain ⟨v, hv, hc⟩ := hT (nU (((x &&& -x) * 285870213051353865#64) >>> 58)) (shr58_lt _)
    have HV := Lib.hid hv
    have hw : IntKind.i64.wrap (v : Int) = (v : Int) := by rw [IntKind.wrap_i64]; omega
    clear hv hT
    go_enter Tryd.func33, Tryd.ntmps33
    go_wp2_with fail
    go_ret
    exact ⟨⟨v, Nat.le_of_lt HV.out, by first | rfl | rw [hw] | simp⟩, rfl⟩
end Go.Proofs.YtmlaackdcnpjmaaDoor.Skp
