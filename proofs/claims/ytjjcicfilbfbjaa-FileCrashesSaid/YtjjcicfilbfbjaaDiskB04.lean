/- A disk's blocks behind a change of one file. -/
import Derived.Test.YtjjcicfilbfbjaaDisk04
namespace Go.Proofs.Ytjjcicfilbfbjaa.Dsk
open Go.RowKit Go.Proofs.Ytjjcicfilbfbjaa.Pin Go.Proofs.Ytjjcicfilbfbjaa.Gon Go.Proofs.Ytjjcicfilbfbjaa.Mps

theorem ownsRow_same {w w' : World} {b : Nat} {e : TypeId} {sz n : Nat} {v : Value} {xs : List Value} (h : w.ownsRow b e sz v n xs) (hs : ∀ k, v.ownBlock = some k → w'.heap[k]? = w.heap[k]?) : w'.ownsRow b e sz v n xs := by
  refine ⟨h.1, ?_⟩
  rcases h.2 with h0 | ⟨g, cap, cur, rfl, hb, hg, h1, h2, h3, h4⟩
  · exact .inl h0
  · exact .inr ⟨g, cap, cur, rfl, hb, (hs g rfl).trans hg, h1, h2, h3, h4⟩
theorem FileAt.same {w w' : World} {f : Fil} (h : FileAt w f) (hs : ∀ r ∈ f.own, w'.heap[r]? = w.heap[r]?) : FileAt w' f :=
  ⟨(hs f.cb (by simp [Fil.own])).trans h.1, ownsRow_same h.2 (fun k hk => hs k (by simp [Fil.own, hk]))⟩
theorem FileAt.lt {w : World} {f : Fil} (h : FileAt w f) : ∀ r ∈ f.own, r < w.heap.size := by
  intro r hr
  simp only [Fil.own, List.mem_cons, Option.mem_toList] at hr
  rcases hr with rfl | hr
  · exact (Array.getElem?_eq_some_iff.1 h.1).1
  · exact (h.2.lt r hr).2
theorem DiskAt.lt {w : World} {g M N : Nat} {C U n : Int} {fs : List Fil} (h : DiskAt w g M N C U n fs) : ∀ r ∈ owns g M N fs, r < w.heap.size := by
  intro r hr
  simp only [owns, List.mem_cons, List.mem_flatMap] at hr
  rcases hr with rfl | rfl | rfl | ⟨f, hf, hr⟩
  · exact (Array.getElem?_eq_some_iff.1 h.disk).1
  · exact h.map.lt
  · exact (Array.getElem?_eq_some_iff.1 h.count).1
  · exact (h.files f hf).lt r hr
theorem nodup_swap {pre x x' post : List Nat} (h : (pre ++ x ++ post).Nodup) (hx : x'.Nodup) (hn : ∀ r ∈ x', r ∈ x ∨ (r ∉ pre ∧ r ∉ post)) : (pre ++ x' ++ post).Nodup := by
  rw [List.nodup_append, List.nodup_append] at h ⊢
  obtain ⟨⟨h1, h2, h3⟩, h4, h5⟩ := h
  refine ⟨⟨h1, hx, fun a ha b hb => ?_⟩, h4, fun a ha b hb => ?_⟩
  · rcases hn b hb with h | ⟨h, _⟩
    · exact h3 a ha b h
    · exact fun e => h (e ▸ ha)
  · rcases List.mem_append.1 ha with ha | ha
    · exact h5 a (List.mem_append.2 (.inl ha)) b hb
    · rcases hn a ha with h | ⟨_, h⟩
      · exact h5 a (List.mem_append.2 (.inr h)) b hb
      · exact fun e => h (e ▸ hb)
theorem owns_split (g M N : Nat) (la : List Fil) (f : Fil) (lb : List Fil) : owns g M N (la ++ f :: lb) = (g :: M :: N :: la.flatMap Fil.own) ++ f.own ++ lb.flatMap Fil.own := by
  simp [owns, List.flatMap_append, List.flatMap_cons]
/-- what a call on the disk may have turned -/
structure Turned (own own' : List Nat) (w w' : World) : Prop where
  os : w'.os = w.os
  tape : w'.tape = w.tape
  output : w'.output = w.output
  size : w.heap.size ≤ w'.heap.size
  block : ∀ r, r < w.heap.size → r ∉ own → w'.heap[r]? = w.heap[r]?
  fresh : ∀ r ∈ own', r ∈ own ∨ w.heap.size ≤ r
theorem Turned.refl (own : List Nat) (w : World) : Turned own own w w := ⟨rfl, rfl, rfl, Nat.le_refl _, fun _ _ _ => rfl, fun _ h => .inl h⟩
theorem Turned.trans {a b c : List Nat} {u v w : World} (h : Turned a b u v) (k : Turned b c v w) : Turned a c u w :=
  ⟨k.os.trans h.os, k.tape.trans h.tape, k.output.trans h.output, Nat.le_trans h.size k.size, fun r hr hn => by
    have h1 : r ∉ b := fun hb => by
      rcases h.fresh r hb with h2 | h2
      · exact hn h2
      · omega
    exact (k.block r (Nat.lt_of_lt_of_le hr h.size) h1).trans (h.block r hr hn), fun r hr => by
    rcases k.fresh r hr with h2 | h2
    · exact h.fresh r h2
    · exact .inr (Nat.le_trans h.size h2)⟩
theorem Turned.below {own own' : List Nat} {w w' : World} {B : Nat} (h : Turned own own' w w') (hB : B ≤ w.heap.size) (ho : ∀ r ∈ own, B ≤ r) : Below B w w' :=
  ⟨h.os, h.tape, h.output, h.size, fun r hr => h.block r (by omega) (fun hm => by have := ho r hm; omega)⟩
/-- one file has turned, and the counts -/
theorem DiskAt.change {w w' : World} {g M N : Nat} {C U n U' n' : Int} {la lb : List Fil} {f f' : Fil} (h : DiskAt w g M N C U n (la ++ f :: lb)) (hname : f'.name = f.name) (hcb : f'.cb = f.cb)
    (hrow : ∀ r, f'.sl.ownBlock = some r → f.sl.ownBlock = some r ∨ w.heap.size ≤ r)
    (hg : w'.heap[g]? = some (.cells #[.int .i64 C, .int .i64 U', .map (some M), wrV N, cnV N] 58 (0, 0))) (hN : w'.heap[N]? = some (.cells #[.int .i64 n'] 3 (0, 0)))
    (hf : FileAt w' f') (ho : ∀ r, r < w.heap.size → r ≠ g → r ≠ N → r ∉ f.own → w'.heap[r]? = w.heap[r]?) : DiskAt w' g M N C U' n' (la ++ f' :: lb) := by
  have hlt := h.lt
  have hap := h.apart
  rw [owns_split] at hap hlt
  have hap' := hap
  rw [List.nodup_append, List.nodup_append] at hap'
  obtain ⟨⟨h1, h2, h3⟩, h4, h5⟩ := hap'
  simp only [List.nodup_cons, List.mem_cons, not_or] at h1
  obtain ⟨⟨hgM, hgN, hga⟩, ⟨hMN, hMa⟩, hNa, _⟩ := h1
  have other : ∀ x, x ∈ la ∨ x ∈ lb → ∀ r ∈ x.own, w'.heap[r]? = w.heap[r]? := by
    intro x hx r hr
    have hrl : r < w.heap.size := by
      apply hlt
      rcases hx with hx | hx
      · simp only [List.mem_append, List.mem_cons, List.mem_flatMap]; exact .inl (.inl (.inr (.inr (.inr ⟨x, hx, hr⟩))))
      · simp only [List.mem_append, List.mem_cons, List.mem_flatMap]; exact .inr ⟨x, hx, hr⟩
    rcases hx with hx | hx
    · have hm : r ∈ la.flatMap Fil.own := List.mem_flatMap.2 ⟨x, hx, hr⟩
      refine ho r hrl (fun e => hga (e ▸ hm)) (fun e => hNa (e ▸ hm)) (fun hf => ?_)
      exact h3 r (by simp [hm]) r hf rfl
    · have hm : r ∈ lb.flatMap Fil.own := List.mem_flatMap.2 ⟨x, hx, hr⟩
      refine ho r hrl (fun e => ?_) (fun e => ?_) (fun hf => ?_)
      · exact h5 r (by simp [e]) r hm rfl
      · exact h5 r (by simp [e]) r hm rfl
      · exact h5 r (by simp [hf]) r hm rfl
  have hMl : M < w.heap.size := h.map.lt
  have hMf : M ∉ f.own := fun hf => h3 M (by simp) M hf rfl
  have hM : w'.heap[M]? = w.heap[M]? := ho M hMl (fun e => hgM e.symm) hMN hMf
  refine ⟨hg, hN, ?_, ?_, ?_⟩
  · have he : ents (la ++ f' :: lb) = ents (la ++ f :: lb) := by simp [ents, hname, hcb]
    rw [he]
    exact h.map.same hM
  · intro x hx
    rcases List.mem_append.1 hx with hx | hx
    · exact (h.files x (by simp [hx])).same (other x (.inl hx))
    · rcases List.mem_cons.1 hx with rfl | hx
      · exact hf
      · exact (h.files x (by simp [hx])).same (other x (.inr hx))
  · rw [owns_split]
    refine nodup_swap hap ?_ ?_
    · unfold Fil.own
      cases hq : f'.sl.ownBlock with
      | none => simp
      | some r =>
        simp only [Option.toList_some, List.nodup_cons, List.mem_singleton, List.not_mem_nil, not_false_eq_true, List.nodup_nil, and_true]
        rcases hrow r hq with h6 | h6
        · intro e
          unfold Fil.own at h2
          rw [h6] at h2
          simp at h2
          exact h2 (by rw [← hcb, e])
        · intro e
          have := hlt f.cb (by simp [Fil.own])
          omega
    · intro r hr
      simp only [Fil.own, List.mem_cons, Option.mem_toList] at hr
      rcases hr with rfl | hr
      · exact .inl (by simp [Fil.own, hcb])
      · rcases hrow r hr with h6 | h6
        · exact .inl (by simp [Fil.own, h6])
        · refine .inr ⟨fun hm => ?_, fun hm => ?_⟩
          · have := hlt r (List.mem_append.2 (.inl (List.mem_append.2 (.inl hm))))
            omega
          · have := hlt r (List.mem_append.2 (.inr hm))
            omega
end Go.Proofs.Ytjjcicfilbfbjaa.Dsk
