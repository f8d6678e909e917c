/- The statement TableFinds: for every input the law's function returns true, and its arguments read as before. The row's step round the walk. -/
import Derived.Test.YtpanbijlfijgfaaRows
import Derived.Test.YtpanbijlfijgfaaTableFindsW
import Derived.Test.YtpanbijlfijgfaaLaw
import Derived.JoinedCond
import Derived.OpenShut
import Derived.Lib.SmallJoins
namespace Go.Proofs.Ytpanbijlfijgfaa.TableFinds
open Go.ChangeShapes Go.WideShapes Go.ChangeAt Go.RowKit Go.Joins Go.Proofs.Ytpanbijlfijgfaa.Law
open Go.ChangeMaps (open_string)
set_option linter.unusedVariables false

theorem own : ownKnob Try.prog.godebug = none := by kernel_rfl

theorem hk : (Rows.OpenSpec.upto Rows.tableFindsSpec).cond = some Rows.uptoSmall := rfl
set_option maxRecDepth 100000 in
theorem lifted (os : Os) (started : os.Started) (H : Type) (enc : TypeId × Value → H) (F : Stop.Interp) :
    ReturnsInHanded {} Try.checked os 3 .any ((Rows.OpenSpec.upto Rows.tableFindsSpec).pre6 enc Try.prog Try.f3 Rows.tableFindsUptoRow.domain false) (((Rows.OpenSpec.upto Rows.tableFindsSpec).at F).post enc Try.prog Try.f3 false true false false) := by
  refine returnsInHanded_of_cond (C := Try.checked) hk own started (by kernel_rfl) Try.func3
    (OpenSpec.witness (enc := enc) (C := Try.checked) (x := ([.lit (.string [])], [], [])) hk false ⟨#[], #[.string .empty], []⟩ 8 (by kernel_rfl) (by kernel_rfl) (by kernel_rfl) (by kernel_rfl) (by kernel_rfl) (by kernel_rfl)) ?_
  intro W base args ds gs before hval0 hW hcnd hsm _
  have hval : ∀ (j : Nat) t v, Try.f3.params[j]? = some t → args[j]? = some v → Value.okWide Try.prog W .any base t v := hval0
  have hW' := hW
  obtain ⟨p, q, hA0, hV, rfl, hfz, hnd⟩ := hW
  have hA : DataW.TrodAll enc Try.prog W 0 (fun _ => true) true Try.f3.params.toList args.toList ds p := hA0
  rw [Try.params3] at hA hval
  obtain ⟨v0, vs0, d0, ds0, p0, q0, hargs, rfl, rfl, h0, r0⟩ := trodAll_cons hA
  obtain ⟨rfl, rfl, rfl⟩ := trodAll_nil r0
  obtain rfl : args = #[v0] := by cases args; simp_all
  obtain ⟨rfl, rfl⟩ := trodVars_none hV
  obtain ⟨a0, rfl, rfl, rfl, w0⟩ := open_string Try.underlying9 (hval 0 9 v0 rfl rfl) h0
  have z0 : a0.size ≤ 35184372088832 := by
    simp only [Rows.uptoSmall, List.append_nil, decide_eq_true_eq, Rows.uptoBulkAll, Rows.uptoBulk] at hsm
    rw [Array.length_toList] at hsm
    have : a0.data.size = a0.size := rfl
    omega
  refine (walk a0 z0 W).mono fun e W' ⟨he, hg⟩ => ?_
  subst he
  exact ⟨_, rfl, law_post (bt := 4) (by kernel_rfl) (by kernel_rfl) Try.underlying4 rfl rfl hW' rfl hg⟩

theorem proved : Rows.TableFindsUptoSaid :=
  OpenClaim.holds_of_cond 3 Try.f3 rfl rfl rfl rfl rfl rfl rfl ⟨rfl, rfl, rfl, rfl, rfl⟩ rfl rfl rfl rfl rfl (by kernel_rfl) Try.func3 (by kernel_rfl)
    (of_decide_eq_true (by kernel_rfl)) (by unfold Func.isWrapper; first | (rw [if_pos (by decide +kernel)]; kernel_rfl) | (rw [if_neg (by decide +kernel)]; exact ⟨rfl, rfl⟩))
    (fun os started H enc _ F => lifted os started H enc F)
end Go.Proofs.Ytpanbijlfijgfaa.TableFinds
