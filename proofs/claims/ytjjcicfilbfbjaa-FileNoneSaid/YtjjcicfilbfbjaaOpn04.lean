/- An op by value, opened to its fields. -/
import Derived.Test.YtjjcicfilbfbjaaFileNoneW
import Derived.Deep.Slices
import Derived.Deep.Fields
import Derived.ChangeSame
import Derived.ChangeSlices
import Derived.SizedLaws
import Derived.OpenShut
namespace Go.Proofs.Ytjjcicfilbfbjaa.Opn
open Go.RowKit Go.ChangeShapes Go.WideShapes Go.Deep Go.Proofs.Ytjjcicfilbfbjaa.Gon

set_option maxRecDepth 100000 in
theorem open_op {H : Type} {enc : TypeId × Value → H} {w : World} {base : Nat} {spare : Nat → Bool} {held : Bool} {r : Reach} {b0 : Nat} {v : Value} {d : DataW H} {ps : List MemPlace}
    (hv : Value.okWide Try.prog w r b0 52 v) (h : DataW.Trod enc Try.prog w base spare held 52 v d ps) (hz : (DataW.weightsEach Try.prog [52] [d]).all (· ≤ reachBytes) = true) :
    ∃ (kd : Int) (a b : ByteArray) (n : Int) (p : Option Addr) (k c : Nat) (A : Nat → Int), v = opV kd a b n p k c ∧ a.size ≤ reachBytes ∧ b.size ≤ reachBytes ∧ k ≤ reachBytes ∧ Ints w p k A := by
  obtain ⟨cs, rfl, hsz⟩ := okWide_struct Try.underlying52 hv
  obtain ⟨l⟩ := cs
  have hC : Try.prog.cellsOf 52 = 5 := by kernel_rfl
  match l, hsz.trans hC with
  | [c0, c1, c2, c3, c4], _ =>
    obtain ⟨fuel, hf⟩ := h
    obtain ⟨ys, n', _, hx, _, hyl, hg⟩ := DataW.trod_struct Try.underlying52 hf
    have g0 := hg 0 _ rfl
    have g1 := hg 1 _ rfl
    have g2 := hg 2 _ rfl
    have g3 := hg 3 _ rfl
    have g4 := hg 4 _ rfl
    have e8 : Try.prog.cellsOf 5 = 1 := by kernel_rfl
    have es : Try.prog.cellsOf 9 = 1 := by kernel_rfl
    have ei : Try.prog.cellsOf 3 = 1 := by kernel_rfl
    have el : Try.prog.cellsOf 23 = 1 := by kernel_rfl
    have ebi : Try.prog.bytesOf 3 = 8 := by kernel_rfl
    match ys, hyl with
    | [y0, y1, y2, y3, y4], _ =>
      replace g0 : DataW.trod enc Try.prog w base spare held n' 5 [c0] = some y0 := by simpa [e8, Value.cells] using g0
      replace g1 : DataW.trod enc Try.prog w base spare held n' 9 [c1] = some y1 := by simpa [es, Value.cells] using g1
      replace g2 : DataW.trod enc Try.prog w base spare held n' 9 [c2] = some y2 := by simpa [es, Value.cells] using g2
      replace g3 : DataW.trod enc Try.prog w base spare held n' 3 [c3] = some y3 := by simpa [ei, Value.cells] using g3
      replace g4 : DataW.trod enc Try.prog w base spare held n' 23 [c4] = some y4 := by simpa [el, Value.cells] using g4
      obtain ⟨kd, hk0, _, _⟩ := DataW.trod_int Try.underlying5 g0
      obtain ⟨a, ha, hya, _⟩ := DataW.trod_string Try.underlying9 g1
      obtain ⟨b, hb, hyb, _⟩ := DataW.trod_string Try.underlying9 g2
      obtain ⟨n, hn, _, _⟩ := DataW.trod_int Try.underlying3 g3
      simp only [List.cons.injEq, and_true] at hk0 ha hb hn
      subst hk0 ha hb hn
      simp only [Prod.mk.injEq] at hx
      have hd : d = .agg [y0.1, y1.1, y2.1, y3.1, y4.1] := by simpa using hx.1
      have hz' : (DataW.weightsEach Try.prog [5, 9, 9, 3, 23] [y0.1, y1.1, y2.1, y3.1, y4.1]).all (· ≤ reachBytes) = true := by
        rw [hd] at hz
        simpa [DataW.weightsEach, DataW.weights, Try.underlying52] using hz
      have za := sized_string hz' (j := 1) (bytes := a.data.toList) rfl (by rw [hya]; rfl)
      have zb := sized_string hz' (j := 2) (bytes := b.data.toList) rfl (by rw [hyb]; rfl)
      have la : a.data.toList.length = a.size := by rw [Array.length_toList]; rfl
      have lb : b.data.toList.length = b.size := by rw [Array.length_toList]; rfl
      rw [la] at za
      rw [lb] at zb
      rcases open_ints Try.underlying23 Try.underlying3 ei g4 with ⟨h0, _⟩ | ⟨ad, len, cap, zs, hcs, _, hl, hm, hlen, hy4, hc, _⟩
      · simp only [List.cons.injEq, and_true] at h0
        subst h0
        exact ⟨_, a, b, _, none, 0, 0, fun _ => 0, rfl, za, zb, Nat.zero_le _, fun i hi => absurd hi (Nat.not_lt_zero _)⟩
      · simp only [List.cons.injEq, and_true] at hcs
        subst hcs
        have zl := sized_slice hz' (j := 4) (elems := lits .i64 (zs.take len)) (spare := lits .i64 (zs.drop len)) rfl (by rw [hy4]; rfl) Try.underlying23
        rw [ebi] at zl
        have l1 : (lits .i64 (zs.take len) : List (DataW H)).length = (zs.take len).length := by simp [lits]
        have hzl : len ≤ zs.length := by rw [hlen]; split <;> omega
        rw [l1, List.length_take] at zl
        refine ⟨_, a, b, _, some ad, len, cap, fun i => zs.getD i 0, rfl, za, zb, by omega, ?_⟩
        intro i hi
        have h0 := hc 0 (by omega)
        obtain ⟨e, sz, hsh, _, hsp⟩ := World.shape?_of_cell? h0
        have hadd : ad.add 0 = ad := by simp [Addr.add]
        rw [hadd] at h0 hsp hsh
        obtain ⟨g, o, s⟩ := ad
        simp at hsp
        subst hsp
        refine ⟨g, o, rfl, Lib.lt_of_cell h0, ?_⟩
        have h1 := hc i (by omega)
        rw [Addr.add_lit] at h1
        exact h1
end Go.Proofs.Ytjjcicfilbfbjaa.Opn
