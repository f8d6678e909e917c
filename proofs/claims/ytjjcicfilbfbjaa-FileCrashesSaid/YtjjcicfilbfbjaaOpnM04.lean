/- A Move by value, a slice of texts, a slice of acts, a slice of numbers: opened to their cells. -/
import Derived.Test.YtjjcicfilbfbjaaFileMovesW
import Derived.Deep.Slices
import Derived.Deep.Fields
import Derived.ChangeSame
import Derived.ChangeSlices
import Derived.SliceStrings
import Derived.SizedLaws
import Derived.OpenShut
namespace Go.Proofs.Ytjjcicfilbfbjaa.Opm
open Go.RowKit Go.ChangeShapes Go.WideShapes Go.Deep

set_option maxRecDepth 100000 in
theorem open_move {H : Type} {enc : TypeId × Value → H} {w : World} {base : Nat} {spare : Nat → Bool} {held : Bool} {r : Reach} {b0 : Nat} {v : Value} {d : DataW H} {ps : List MemPlace}
    (hv : Value.okWide Try.prog w r b0 47 v) (h : DataW.Trod enc Try.prog w base spare held 47 v d ps) (hz : (DataW.weightsEach Try.prog [47] [d]).all (· ≤ reachBytes) = true) :
    ∃ (a b c m : ByteArray), v = .agg #[.string a, .string b, .string c, .string m] ∧ a.size ≤ 140737488351232 ∧ b.size ≤ 140737488351232 ∧ c.size ≤ 140737488351232 ∧ m.size ≤ 140737488351232 := by
  obtain ⟨cs, rfl, hsz⟩ := okWide_struct Try.underlying47 hv
  obtain ⟨l⟩ := cs
  have hC : Try.prog.cellsOf 47 = 4 := by kernel_rfl
  match l, hsz.trans hC with
  | [c0, c1, c2, c3], _ =>
    obtain ⟨fuel, hf⟩ := h
    obtain ⟨ys, n', _, hx, _, hyl, hg⟩ := DataW.trod_struct Try.underlying47 hf
    have g0 := hg 0 _ rfl
    have g1 := hg 1 _ rfl
    have g2 := hg 2 _ rfl
    have g3 := hg 3 _ rfl
    have es : Try.prog.cellsOf 9 = 1 := by kernel_rfl
    match ys, hyl with
    | [y0, y1, y2, y3], _ =>
      replace g0 : DataW.trod enc Try.prog w base spare held n' 9 [c0] = some y0 := by simpa [es, Value.cells] using g0
      replace g1 : DataW.trod enc Try.prog w base spare held n' 9 [c1] = some y1 := by simpa [es, Value.cells] using g1
      replace g2 : DataW.trod enc Try.prog w base spare held n' 9 [c2] = some y2 := by simpa [es, Value.cells] using g2
      replace g3 : DataW.trod enc Try.prog w base spare held n' 9 [c3] = some y3 := by simpa [es, Value.cells] using g3
      obtain ⟨a, ha, hya, _⟩ := DataW.trod_string Try.underlying9 g0
      obtain ⟨b, hb, hyb, _⟩ := DataW.trod_string Try.underlying9 g1
      obtain ⟨c, hc, hyc, _⟩ := DataW.trod_string Try.underlying9 g2
      obtain ⟨m, hm, hym, _⟩ := DataW.trod_string Try.underlying9 g3
      simp only [List.cons.injEq, and_true] at ha hb hc hm
      subst ha hb hc hm
      simp only [Prod.mk.injEq] at hx
      have hd : d = .agg [y0.1, y1.1, y2.1, y3.1] := by simpa using hx.1
      have hz' : (DataW.weightsEach Try.prog [9, 9, 9, 9] [y0.1, y1.1, y2.1, y3.1]).all (· ≤ reachBytes) = true := by
        rw [hd] at hz
        simpa [DataW.weightsEach, DataW.weights, Try.underlying47] using hz
      have za := sized_string hz' (j := 0) (bytes := a.data.toList) rfl (by rw [hya]; rfl)
      have zb := sized_string hz' (j := 1) (bytes := b.data.toList) rfl (by rw [hyb]; rfl)
      have zc := sized_string hz' (j := 2) (bytes := c.data.toList) rfl (by rw [hyc]; rfl)
      have zm := sized_string hz' (j := 3) (bytes := m.data.toList) rfl (by rw [hym]; rfl)
      rw [Array.length_toList] at za zb zc zm
      exact ⟨a, b, c, m, rfl, za, zb, zc, zm⟩
end Go.Proofs.Ytjjcicfilbfbjaa.Opm
