/- A slice of tellings, opened to its cells. -/
import Derived.Test.YtlbhkgdiplmgnaaWldT
import Derived.Deep.Slices
import Derived.Deep.Fields
import Derived.ChangeSame
import Derived.OpenShut
namespace Go.Proofs.Ytlbhkgdiplmgnaa.Wld
open Go.RowKit Go.ChangeShapes Go.WideShapes Go.Deep

/-- what a slice of tellings holds -/
def Tells (w : World) (p : Option Addr) (len : Nat) : Prop :=
  ∀ i, i < len → ∃ g o n d, p = some ⟨g, o, none⟩ ∧ g < w.heap.size ∧ w.cell? ⟨g, o + i * 2, none⟩ = some (.int .i64 n) ∧ w.cell? ⟨g, o + i * 2 + 1, none⟩ = some (.int .u32 d)

theorem open_tells {H : Type} {enc : TypeId × Value → H} {w : World} {base : Nat} {spare : Nat → Bool} {held : Bool} {r : Reach} {b0 : Nat} {v : Value} {d : DataW H} {ps : List MemPlace}
    (hv : Value.okWide Try.prog w r b0 22 v) (h : DataW.Trod enc Try.prog w base spare held 22 v d ps) :
    ∃ p len cap, v = .slice p len cap ∧ len ≤ 9223372036854775807 ∧ Tells w p len := by
  obtain ⟨p, len, cap, rfl⟩ := okWide_slice Try.underlying22 hv
  refine ⟨p, len, cap, rfl, ?_⟩
  obtain ⟨fuel, hf⟩ := h
  rcases open_slice Try.underlying22 hf with ⟨h0, _⟩ | ⟨a, l, c, m, n, D, Pl, hcs, hb, hl, hm, hmm, hx, hi⟩
  · simp [Value.cells] at h0
    obtain ⟨rfl, rfl, rfl⟩ := h0
    exact ⟨by omega, fun i hi => absurd hi (by omega)⟩
  · simp [Value.cells] at hcs
    obtain ⟨rfl, rfl, rfl⟩ := hcs
    refine ⟨by unfold maxLen at hm; omega, ?_⟩
    have hall : ∀ i, i < len → ∃ n d, w.cell? (a.add (i * 2)) = some (.int .i64 n) ∧ w.cell? (a.add (i * 2 + 1)) = some (.int .u32 d) := by
      intro i hi'
      obtain ⟨cs, hc, ht⟩ := hi i (by rw [hmm]; split <;> omega)
      have h2 : Try.prog.cellsOf 33 = 2 := by kernel_rfl
      rw [h2] at hc
      obtain ⟨ys, n', _, _, _, hyl, hf⟩ := DataW.trod_struct Try.underlying33 ht
      obtain ⟨_, hcl, hat⟩ := World.cells?_some hc
      match cs, hcl with
      | [c0, c1], _ =>
        have g0 := hf 0 _ rfl
        have g1 := hf 1 _ rfl
        have k0 := hat 0 (by omega)
        have k1 := hat 1 (by omega)
        have e64 : Try.prog.cellsOf 2 = 1 := by kernel_rfl
        have e32 : Try.prog.cellsOf 31 = 1 := by kernel_rfl
        replace g0 : DataW.trod enc Try.prog w base spare held n' 2 [c0] = ys[0]? := by simpa [e64] using g0
        replace g1 : DataW.trod enc Try.prog w base spare held n' 31 [c1] = ys[1]? := by simpa [e32] using g1
        match ys, hyl with
        | [y0, y1], _ =>
          obtain ⟨x0, hx0, _, _⟩ := DataW.trod_int Try.underlying2 g0
          obtain ⟨x1, hx1, _, _⟩ := DataW.trod_int Try.underlying31 g1
          simp only [List.cons.injEq, and_true] at hx0 hx1
          subst hx0 hx1
          rw [Go.Deep.add_add] at k0 k1
          exact ⟨x0, x1, k0, k1⟩
    intro i hi'
    obtain ⟨n0, d0, hz0, _⟩ := hall 0 (by omega)
    obtain ⟨e, sz, hsh, _, hsp⟩ := World.shape?_of_cell? hz0
    have hadd : a.add (0 * 2) = a := by simp [Addr.add]
    rw [hadd] at hsp hsh
    obtain ⟨g, o, s⟩ := a
    simp at hsp
    subst hsp
    obtain ⟨n1, d1, hc, hd⟩ := hall i hi'
    have e1 : (⟨g, o, none⟩ : Addr).add (i * 2) = ⟨g, o + i * 2, none⟩ := by unfold Addr.add; split <;> simp_all
    have e2 : (⟨g, o, none⟩ : Addr).add (i * 2 + 1) = ⟨g, o + i * 2 + 1, none⟩ := by unfold Addr.add; rw [if_neg (by omega)]; rfl
    rw [e1] at hc
    rw [e2] at hd
    refine ⟨g, o, n1, d1, rfl, ?_, hc, hd⟩
    exact World.block_lt_of_cell? w _ hc
end Go.Proofs.Ytlbhkgdiplmgnaa.Wld
