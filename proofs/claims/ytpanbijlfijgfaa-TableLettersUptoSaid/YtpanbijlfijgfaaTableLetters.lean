/- The statement TableLetters: for every input the law's function returns true, and its arguments read as before. The row's step round the walk. -/
import Derived.Test.YtpanbijlfijgfaaRows
import Derived.Test.YtpanbijlfijgfaaTableLettersW
import Derived.Test.YtpanbijlfijgfaaLaw
import Derived.JoinedCond
import Derived.OpenShut
import Derived.Lib.SmallJoins
import Derived.Test.YtpanbijlfijgfaaOpn18
namespace Go.Proofs.Ytpanbijlfijgfaa.TableLetters
open Go.ChangeShapes Go.WideShapes Go.ChangeAt Go.RowKit Go.Joins Go.Proofs.Ytpanbijlfijgfaa.Law Go.Proofs.Ytpanbijlfijgfaa.Opn
open Go.ChangeMaps (open_string)
set_option linter.unusedVariables false

theorem own : ownKnob Try.prog.godebug = none := by kernel_rfl

theorem hk : (Rows.OpenSpec.upto Rows.tableLettersSpec).cond = some Rows.uptoSmall := rfl
set_option maxRecDepth 100000 in
theorem lifted (os : Os) (started : os.Started) (H : Type) (enc : TypeId × Value → H) (F : Stop.Interp) :
    ReturnsInHanded {} Try.checked os 4 .any ((Rows.OpenSpec.upto Rows.tableLettersSpec).pre6 enc Try.prog Try.f4 Rows.tableLettersUptoRow.domain false) (((Rows.OpenSpec.upto Rows.tableLettersSpec).at F).post enc Try.prog Try.f4 false true false false) := by
  refine returnsInHanded_of_cond (C := Try.checked) hk own started (by kernel_rfl) Try.func4
    (OpenSpec.witness (enc := enc) (C := Try.checked) (x := ([.nil, .nil], [], [])) hk false ⟨#[], #[.slice none 0 0, .slice none 0 0], []⟩ 8 (by kernel_rfl) (by kernel_rfl) (by kernel_rfl) (by kernel_rfl) (by kernel_rfl) (by kernel_rfl)) ?_
  intro W base args ds gs before hval0 hW hcnd hsm _
  have hval : ∀ (j : Nat) t v, Try.f4.params[j]? = some t → args[j]? = some v → Value.okWide Try.prog W .any base t v := hval0
  have hW' := hW
  obtain ⟨p, q, hA0, hV, rfl, hfz, hnd⟩ := hW
  have hA : DataW.TrodAll enc Try.prog W 0 (fun _ => true) true Try.f4.params.toList args.toList ds p := hA0
  rw [Try.params4] at hA hval
  obtain ⟨v0, vs0, d0, ds0, p0, q0, hargs, rfl, rfl, h0, r0⟩ := trodAll_cons hA
  obtain ⟨v1, vs1, d1, ds1, p1, q1, rfl, rfl, rfl, h1, r1⟩ := trodAll_cons r0
  obtain ⟨rfl, rfl, rfl⟩ := trodAll_nil r1
  obtain rfl : args = #[v0, v1] := by cases args; simp_all
  obtain ⟨rfl, rfl⟩ := trodVars_none hV
  obtain ⟨p, ss, cap, rfl, hcap, hS, hl, hb⟩ := open_cmd (hval 0 33 v0 rfl rfl) h0
  obtain ⟨q, us, cap2, rfl, hU, hul⟩ := open_flags (hval 1 34 v1 rfl rfl) h1
  have hsm' : Rows.uptoBulk d0 + Rows.uptoBulk d1 ≤ 1048576 := by
    simpa only [Rows.uptoSmall, List.append_nil, decide_eq_true_eq, Rows.uptoBulkAll, Nat.add_zero] using hsm
  refine (walk p ss cap q us cap2 W (by omega) hcap (by omega) (fun s hs => by have := hb s hs; omega) hS hU).mono fun e W' ⟨he, hg⟩ => ?_
  subst he
  exact ⟨_, rfl, law_post (bt := 4) (by kernel_rfl) (by kernel_rfl) Try.underlying4 rfl rfl hW' rfl hg⟩

theorem proved : Rows.TableLettersUptoSaid :=
  OpenClaim.holds_of_cond 4 Try.f4 rfl rfl rfl rfl rfl rfl rfl ⟨rfl, rfl, rfl, rfl, rfl⟩ rfl rfl rfl rfl rfl (by kernel_rfl) Try.func4 (by kernel_rfl)
    (of_decide_eq_true (by kernel_rfl)) (by unfold Func.isWrapper; first | (rw [if_pos (by decide +kernel)]; kernel_rfl) | (rw [if_neg (by decide +kernel)]; exact ⟨rfl, rfl⟩))
    (fun os started H enc _ F => lifted os started H enc F)
end Go.Proofs.Ytpanbijlfijgfaa.TableLetters
