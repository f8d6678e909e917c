/- The statement SkipRanks, as a card: for every input the law's function returns true, and its arguments read as before; the listed table is tied to the program's text. The row's step round the walk. -/
import Derived.Test.YtmlaackdcnpjmaaDoorRows
import Derived.Test.YtmlaackdcnpjmaaDoorCards
import Derived.Test.YtmlaackdcnpjmaaDoorTie
import Derived.Test.YtmlaackdcnpjmaaDoorRnkW09
import Derived.Test.YtmlaackdcnpjmaaDoorOpn09
import Derived.Test.YtmlaackdcnpjmaaDoorLaw
import Derived.SizedLaws
import Derived.OpenShut
import Derived.Lib.SmallJoins
import Derived.LaidMore
import Derived.SevenTiedAt
namespace Go.Proofs.YtmlaackdcnpjmaaDoor.SkipRanks
open Go.Proofs.YtmlaackdcnpjmaaDoor.Skp Go.Proofs.YtmlaackdcnpjmaaDoor.Rdg Go.ChangeShapes Go.WideShapes Go.ChangeAt Go.RowKit Go.Joins Go.Proofs.YtmlaackdcnpjmaaDoor.Law
set_option linter.unusedVariables false

theorem own : ownKnob Tryd.prog.godebug = none := by kernel_rfl

set_option maxRecDepth 100000 in
theorem lifted (os : Os) (started : os.Started) (H : Type) (enc : TypeId × Value → H) :
    ReturnsInHanded {} Tryd.checked os 5 .any (fun w args => (Rows.skipRanksSpec.pre enc Tryd.prog Tryd.f5 [] false w args ∧ laidMetH Tryd.prog laidTab w) ∧ sizedMet enc Tryd.prog Tryd.f5 (OpenSpec.ofChange Rows.skipRanksSpec) false w args)
      (Rows.skipRanksSpec.post enc Tryd.prog Tryd.f5 false true false false) := by
  refine returnsInHanded_of_change_and (C := Tryd.checked) (X := fun w _ => laidMetH Tryd.prog laidTab w) (fun _ _ _ hh h => h.of_heap hh) own started (by kernel_rfl) Tryd.func5
    (ChangeSpec.witness_shaped (enc := enc) (C := Tryd.checked) (os := os) (X := fun w _ => laidMetH Tryd.prog laidTab w) false (World.doorLaid Tryd.prog 400 os) #[.int .u64 0, .slice none 0 0, .bool false] 8 rfl (World.shaped_of_RefB (by kernel_rfl) (by kernel_rfl)) (by kernel_rfl) (by kernel_rfl) (by kernel_rfl) (door_met os _)) ?_
  intro W base args ds gs before hval0 hW _ hsz0 hL _
  have hval : ∀ (j : Nat) t v, Tryd.f5.params[j]? = some t → args[j]? = some v → Value.okWide Tryd.prog W .any base t v := hval0
  have hW' := hW
  obtain ⟨p, q, hA0, hV, rfl, hfz, hnd⟩ := hW
  have hA : DataW.TrodAll enc Tryd.prog W 0 (fun _ => true) true Tryd.f5.params.toList args.toList ds p := hA0
  have hsz : (DataW.weightsEach Tryd.prog (Tryd.f5.params.toList ++ Rows.skipRanksSpec.plain.varTypes Tryd.prog) (ds ++ gs)).all (· ≤ reachBytes) = true := hsz0
  rw [Tryd.params5] at hA hval hsz
  obtain ⟨v0, vs0, d0, ds0, p0, q0, hargs, rfl, rfl, h0, r0⟩ := trodAll_cons hA
  obtain ⟨v1, vs1, d1, ds1, p1, q1, rfl, rfl, rfl, h1, r1⟩ := trodAll_cons r0
  obtain ⟨v2, vs2, d2, ds2, p2, q2, rfl, rfl, rfl, h2, r2⟩ := trodAll_cons r1
  obtain ⟨rfl, rfl, rfl⟩ := trodAll_nil r2
  obtain rfl : args = #[v0, v1, v2] := by cases args; simp_all
  obtain ⟨rfl, rfl⟩ := trodVars_none hV
  obtain ⟨x0, rfl, rfl, rfl, w0⟩ := open_int Tryd.underlying22 (hval 0 22 v0 rfl rfl) h0
  obtain ⟨y0, rfl⟩ : ∃ y0 : Nat, x0 = (y0 : Int) := ⟨x0.toNat, by simp only [Lit.wf, Bool.and_eq_true, decide_eq_true_eq] at w0; have m1 : IntKind.u64.min = 0 := rfl; omega⟩
  have hy0 : y0 < 2 ^ 64 := by
    simp only [Lit.wf, Bool.and_eq_true, decide_eq_true_eq] at w0
    have m2 : IntKind.u64.max = 18446744073709551615 := rfl
    omega
  obtain ⟨fuel1, hf1⟩ := h1
  obtain ⟨l1, hs1⟩ := rd_scoreds _ _ _ hf1 (fun n hn => by
    have := List.all_eq_true.1 hsz n (DataW.weights_mem_each (j := 1) rfl rfl n hn)
    simpa using this)
  obtain ⟨u1, hc1, ha1, hb1⟩ := scoreds_of hs1
  obtain ⟨A1, n1, c1, rfl⟩ := okWide_slice Tryd.underlying23 (hval 1 23 v1 rfl rfl)
  obtain rfl : (.slice A1 n1 c1 : Value) = u1 := by simpa [Value.cells] using hc1
  have hi1 : Lw W l1 (.slice A1 n1 c1) := ⟨ha1, hb1, tab_of hL⟩
  obtain ⟨x2, rfl, rfl, rfl⟩ := open_bool Tryd.underlying4 (hval 2 4 v2 rfl rfl) h2
  refine (ranks_any y0 hy0 l1 _ x2 W hi1).mono fun e W' ⟨he, hg⟩ => ?_
  subst he
  exact ⟨_, rfl, law_post (bt := 4) (by kernel_rfl) (by kernel_rfl) Tryd.underlying4 rfl rfl hW' rfl hg⟩

theorem row_holds : Rows.SkipRanksSaid :=
  OpenClaim.holds_of_wide 5 Tryd.f5 rfl rfl rfl rfl rfl rfl rfl ⟨rfl, rfl, rfl, rfl, rfl⟩ rfl rfl rfl rfl rfl (by kernel_rfl) Tryd.func5 (by kernel_rfl)
    (of_decide_eq_true (by kernel_rfl)) (by unfold Func.isWrapper; first | (rw [if_pos (by decide +kernel)]; kernel_rfl) | (rw [if_neg (by decide +kernel)]; exact ⟨rfl, rfl⟩))
    (fun os started H enc _ => lifted os started H enc)

theorem proved : Rows.SkipRanksCardSaid :=
  Claim7.holds_tied_plain_at .later [] [.data] true (true, "448de094a372fd104ed67184a7d9fba22cda60c12eea2ccd83f7748f03d99db2") false
    row_holds (fun _ h => by cases h) (by kernel_rfl) (fun _ h => by cases h) skipRanks_row_tie rfl ⟨rfl, rfl⟩ (by kernel_rfl) rfl
    (fun f fn hf hfn => by
      obtain rfl : f = 5 := Option.some.inj ((show Tryd.prog.funcNamed "stillroom/stillroomlaw09.SkipRanks" = some 5 by kernel_rfl).symm.trans hf) |>.symm
      obtain rfl : fn = Tryd.f5 := (Option.some.inj (Tryd.func5.symm.trans hfn)).symm
      exact ⟨by kernel_rfl, fun j t ht => by
        rw [Tryd.params5] at ht
        have hm : t ∈ [22, 23, 4] := by simpa using Array.mem_of_getElem? ht
        have hall : ([22, 23, 4].all fun u => !Tryd.prog.wantsStandIn u) = true := by kernel_rfl
        exact (show Tryd.prog.wantsStandIn t = false by simpa using List.all_eq_true.1 hall t hm)⟩)
    (by kernel_rfl)
end Go.Proofs.YtmlaackdcnpjmaaDoor.SkipRanks
