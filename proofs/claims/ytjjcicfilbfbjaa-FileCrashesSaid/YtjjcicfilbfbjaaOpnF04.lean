/- A slice of texts opened to its cells; how small each text is. -/
import Derived.Test.YtjjcicfilbfbjaaFileFailsW
import Derived.Test.YtjjcicfilbfbjaaOpnM04
namespace Go.Proofs.Ytjjcicfilbfbjaa.Opm
open Go.RowKit Go.ChangeShapes Go.WideShapes Go.Deep Go.Proofs.Ytjjcicfilbfbjaa.FileFails

theorem weights_all {H : Type} {P : Program} {e : TypeId} {d : DataW H} : ∀ {l : List (DataW H)}, d ∈ l → ∀ n ∈ d.weights P e, n ∈ DataW.weightsAll P e l
  | x :: l, h, n, hn => by
    simp only [DataW.weightsAll, List.mem_append]
    rcases List.mem_cons.1 h with rfl | h
    · exact .inl hn
    · exact .inr (weights_all h n hn)
set_option maxRecDepth 100000 in
theorem open_texts {H : Type} {enc : TypeId × Value → H} {w : World} {base : Nat} {held : Bool} {r : Reach} {b0 : Nat} {v : Value} {d : DataW H} {ps : List MemPlace}
    (hv : Value.okWide Try.prog w r b0 31 v) (h : DataW.Trod enc Try.prog w base (fun _ => true) held 31 v d ps) (hz : ∀ n ∈ d.weights Try.prog 31, n ≤ reachBytes) :
    ∃ p ss cap, v = .slice p ss.length cap ∧ StrsAt w p ss ∧ ss.length ≤ 140737488351232 ∧ ∀ s ∈ ss, s.size ≤ 140737488351232 := by
  obtain ⟨p, len, cap, rfl⟩ := okWide_slice Try.underlying31 hv
  obtain ⟨fuel, hf⟩ := h
  rcases open_strings Try.underlying31 Try.underlying9 (by kernel_rfl) hf with ⟨h0, _⟩ | ⟨a, l, c, ss, hcs, hb, hl, hm, hlen, hx, hc, _⟩
  · simp [Value.cells] at h0
    obtain ⟨rfl, rfl, rfl⟩ := h0
    exact ⟨none, [], 0, rfl, fun i hi => absurd hi (Nat.not_lt_zero _), Nat.zero_le _, fun s hs => by cases hs⟩
  · simp [Value.cells] at hcs
    obtain ⟨rfl, rfl, rfl⟩ := hcs
    rw [if_pos rfl] at hlen
    have htl : (ss.take len).length = len := by rw [List.length_take]; omega
    have hd : d = .slice (strs (ss.take len)) (strs (ss.drop len)) := congrArg Prod.fst hx
    rw [hd] at hz
    have eb : Try.prog.bytesOf 9 = 16 := by kernel_rfl
    have hz1 := hz (((strs (ss.take len) : List (DataW H)).length + (strs (ss.drop len) : List (DataW H)).length) * Try.prog.bytesOf 9) (by simp [DataW.weights, Try.underlying31])
    have e1 : (strs (ss.take len) : List (DataW H)).length = len := by simp only [strs, List.length_map]; exact htl
    rw [eb, e1] at hz1
    unfold reachBytes at hz1
    refine ⟨some a, ss.take len, cap, by rw [htl], ?_, by rw [htl]; omega, ?_⟩
    · intro i hi
      have hi2 : i < len := by rw [htl] at hi; exact hi
      have h0 := hc 0 (by omega)
      obtain ⟨e, sz, hsh, _, hsp⟩ := World.shape?_of_cell? h0
      have hadd : a.add 0 = a := by simp [Addr.add]
      rw [hadd] at h0 hsp hsh
      obtain ⟨g, o, s⟩ := a
      simp at hsp
      subst hsp
      refine ⟨g, o, rfl, Lib.lt_of_cell h0, ?_⟩
      have h1 := hc i (by omega)
      rw [Addr.add_lit] at h1
      rw [h1]
      have : i < ss.length := by omega
      simp [List.getD, this]
    · intro s hs
      have hm : (.lit (.string s.data.toList) : DataW H) ∈ (strs (ss.take len) : List (DataW H)) := List.mem_map.2 ⟨s, hs, rfl⟩
      have h2 := hz s.data.toList.length (by
        simp only [DataW.weights, Try.underlying31, List.mem_cons, List.mem_append]
        exact .inr (.inl (weights_all hm _ (by simp [DataW.weights]))))
      rw [Array.length_toList] at h2
      exact h2
end Go.Proofs.Ytjjcicfilbfbjaa.Opm
