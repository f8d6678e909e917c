/- Chapter 09: Between where a bound is no number. -/
import Derived.Test.YtmlaackdcnpjmaaDoorSkM09
namespace Go.Proofs.YtmlaackdcnpjmaaDoor.Skp
open Go Go.RowKit Go.Proofs.YtmlaackdcnpjmaaDoor.Pin Go.Proofs.YtmlaackdcnpjmaaDoor.Flt
theorem btw_nan {w : World} {own : Nat → Prop} {s : Nat} {L : List Sc} (lo hi : Nat) (without within : Bool) (hn : fEq lo lo = false ∨ fEq hi hi = false) (hL : SkL w own s L) :
    Calls Tryd.prog 15 #[.pointer (some ⟨s, 0, none⟩), .float .f64 lo, .float .f64 hi, .bool without, .bool within] w fun e w' => e = .returned (.slice none 0 0) ∧ Below w.heap.size w w' := by
  obtain ⟨_, seed, bl, ht, mem, _, hS, _⟩ := hL
  have HG := Lib.hid (fun W (hW : Below w.heap.size w W) => gone_no s (bl 0) W (hS.below hW).head)
  have HN1 := Lib.hid (fun W => nan_any lo W)
  have HN2 := Lib.hid (fun W => nan_any hi W)
  have HB0 := Lib.hid (below_two (Below.refl w.heap.size w) (Nat.le_refl _) (.cells #[.float .f64 lo] 29) (.cells #[.bool without] 4))
  cases h1 : fEq lo lo with
  | false =>
    rw [h1] at HN1
    clear hS hn h1
    go_enter Tryd.func15, Tryd.ntmps15
    go_wp2_with fail
    refine (HG.out _ HB0.out).mono ?_
    rintro e w' ⟨rfl, rfl⟩
    go_wp2_with fail
    refine (HN1.out _).mono ?_
    rintro e w' ⟨rfl, rfl⟩
    go_wp2_with fail
    go_ret
    exact ⟨rfl, HB0.out⟩
  | true =>
    have h2 : fEq hi hi = false := by
      rcases hn with k | k
      · rw [h1] at k; cases k
      · exact k
    rw [h1] at HN1
    rw [h2] at HN2
    clear hS hn h1 h2
    go_enter Tryd.func15, Tryd.ntmps15
    go_wp2_with fail
    refine (HG.out _ HB0.out).mono ?_
    rintro e w' ⟨rfl, rfl⟩
    go_wp2_with fail
    refine (HN1.out _).mono ?_
    rintro e w' ⟨rfl, rfl⟩
    go_wp2_with fail
    refine (HN2.out _).mono ?_
    rintro e w' ⟨rfl, rfl⟩
    go_wp2_with fail
    go_ret
    exact ⟨rfl, HB0.out⟩
end Go.Proofs.YtmlaackdcnpjmaaDoor.Skp
