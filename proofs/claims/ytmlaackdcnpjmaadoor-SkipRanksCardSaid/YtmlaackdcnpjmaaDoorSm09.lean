/- Chapter 09: the small functions. -/
import Derived.Test.YtmlaackdcnpjmaaDoorSkLv
import Derived.Test.YtmlaackdcnpjmaaDoorPin2
import Derived.Lib.Hide
import Derived.Deep.MidRow
import Derived.Below
import Derived.WalkKit
import Derived.KernelRfl
import Derived.LoopTactic
import Derived.WalkLawsBesides
import Derived.Deep.WholeRow
namespace Go.Proofs.YtmlaackdcnpjmaaDoor.Skp
open Go Go.RowKit Go.Proofs.YtmlaackdcnpjmaaDoor.Pin Go.Proofs.YtmlaackdcnpjmaaDoor.Flt
abbrev scV (m : Sc) : Value := .agg #[.string m.1, .float .f64 m.2]
theorem nless_any (a b : Nat) (w : World) : Calls Tryd.prog 30 #[.float .f64 a, .float .f64 b] w fun e w' => e = .returned (.bool (fLt a b)) ∧ w = w' := by
  cases h : fLt a b with
  | false =>
    have h1 : (FloatKind.f64.format.order a b == some Ordering.lt) = false := h
    go_enter Tryd.func30, Tryd.ntmps30
    go_wp2_with fail
    go_ret
    exact ⟨rfl, rfl⟩
  | true =>
    have h1 : (FloatKind.f64.format.order a b == some Ordering.lt) = true := h
    go_enter Tryd.func30, Tryd.ntmps30
    go_wp2_with fail
    go_ret
    exact ⟨rfl, rfl⟩
theorem nan_any (x : Nat) (w : World) : Calls Tryd.prog 27 #[.float .f64 x] w fun e w' => e = .returned (.bool (!fEq x x)) ∧ w = w' := by
  cases h : fEq x x with
  | false =>
    have h1 : (FloatKind.f64.format.order x x != some Ordering.eq) = true := by
      have h0 : (FloatKind.f64.format.order x x == some Ordering.eq) = false := h
      rw [bne, h0]; rfl
    go_enter Tryd.func27, Tryd.ntmps27
    go_wp2_with fail
    go_ret
    exact ⟨rfl, rfl⟩
  | true =>
    have h1 : (FloatKind.f64.format.order x x != some Ordering.eq) = false := by
      have h0 : (FloatKind.f64.format.order x x == some Ordering.eq) = true := h
      rw [bne, h0]; rfl
    go_enter Tryd.func27, Tryd.ntmps27
    go_wp2_with fail
    go_ret
    exact ⟨rfl, rfl⟩
theorem less_any (p q : Sc) (w : World) : Calls Tryd.prog 25 #[scV p, scV q] w fun e w' => e = .returned (.bool (lessB p q)) ∧ Below w.heap.size w w' := by
  obtain ⟨a, b⟩ := p
  obtain ⟨c, d⟩ := q
  have HN := Lib.hid (fun w => nless_any b d w)
  have hB := ((Below.refl w.heap.size w).alloc (Nat.le_refl _) (.cells #[.string a, .float .f64 b] 31)).alloc (by simp) (.cells #[.string c, .float .f64 d] 31)
  have HB := Lib.hid hB
  clear hB
  cases h : fLt b d with
  | true =>
    have e : lessB (a, b) (c, d) = true := by unfold lessB; rw [h]; rfl
    rw [e]
    rw [h] at HN
    clear e h
    go_enter Tryd.func25, Tryd.ntmps25
    go_wp2_with fail
    refine (HN.out _).mono ?_
    rintro e w' ⟨rfl, rfl⟩
    go_wp2_with fail
    go_ret
    exact ⟨rfl, HB.out⟩
  | false =>
    rw [h] at HN
    cases h2 : fEq b d with
    | true =>
      have e : lessB (a, b) (c, d) = Op.bytesLess a.toList c.toList := by unfold lessB; rw [h, h2]; rfl
      have h1 : (FloatKind.f64.format.order b d == some Ordering.eq) = true := h2
      rw [e]
      clear e h h2
      go_enter Tryd.func25, Tryd.ntmps25
      go_wp2_with fail
      refine (HN.out _).mono ?_
      rintro e w' ⟨rfl, rfl⟩
      go_wp2_with fail
      go_ret
      exact ⟨rfl, HB.out⟩
    | false =>
      have e : lessB (a, b) (c, d) = false := by unfold lessB; rw [h, h2]; rfl
      have h1 : (FloatKind.f64.format.order b d == some Ordering.eq) = false := h2
      rw [e]
      clear e h h2
      go_enter Tryd.func25, Tryd.ntmps25
      go_wp2_with fail
      refine (HN.out _).mono ?_
      rintro e w' ⟨rfl, rfl⟩
      go_wp2_with fail
      go_ret
      exact ⟨rfl, HB.out⟩
/-- a method on a list of skips that is there -/
theorem gone_no (s hb : Nat) (w : World) (h : w.cell? ⟨s, 1, none⟩ = some (.pointer (some ⟨hb, 0, none⟩))) : Calls Tryd.prog 24 #[.pointer (some ⟨s, 0, none⟩)] w fun e w' => e = .returned (.bool false) ∧ w = w' := by
  go_enter Tryd.func24, Tryd.ntmps24
  go_wp2_with fail
  go_ret
  exact ⟨rfl, rfl⟩
end Go.Proofs.YtmlaackdcnpjmaaDoor.Skp
