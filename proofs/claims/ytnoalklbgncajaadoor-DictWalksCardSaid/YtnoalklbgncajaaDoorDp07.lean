/- Chapter 07: a table of which one place turns. -/
import Derived.Test.YtnoalklbgncajaaDoorDn07
namespace Go.Proofs.YtnoalklbgncajaaDoor.Dct
open Go Go.RowKit Go.Proofs.YtnoalklbgncajaaDoor.Pin Go.Proofs.YtnoalklbgncajaaDoor.Mps Go.Proofs.YtnoalklbgncajaaDoor.Bok Go.Proofs.YtnoalklbgncajaaDoor.Uw Go.Proofs.YtnoalklbgncajaaDoor.Sip
theorem blks_set_some : ∀ {ps : List Pl} {i b : Nat} {l l' : Ents}, ps[i]? = some (some (b, l)) → blks (ps.set i (some (b, l'))) = blks ps
  | [], i, b, l, l', h => by simp at h
  | x :: ps, 0, b, l, l', h => by
    have e : x = some (b, l) := by simpa using h
    subst e
    simp [blks]
  | x :: ps, i + 1, b, l, l', h => by
    have ih := blks_set_some (ps := ps) (i := i) (b := b) (l := l) (l' := l') (by simpa using h)
    cases x with
    | none => simpa [blks] using ih
    | some y => simpa [blks] using ih
theorem blks_set_none : ∀ {ps : List Pl} {i b : Nat} {l : Ents}, ps[i]? = some none → (blks (ps.set i (some (b, l)))).Perm (b :: blks ps)
  | [], i, b, l, h => by simp at h
  | x :: ps, 0, b, l, h => by
    have e : x = none := by simpa using h
    subst e
    simp [blks]
  | x :: ps, i + 1, b, l, h => by
    have ih := blks_set_none (ps := ps) (i := i) (b := b) (l := l) (by simpa using h)
    cases x with
    | none => simpa [blks] using ih
    | some y =>
      have e1 : blks ((some y :: ps).set (i + 1) (some (b, l))) = y.1 :: blks (ps.set i (some (b, l))) := rfl
      have e2 : blks (some y :: ps) = y.1 :: blks ps := rfl
      rw [e1, e2]
      exact (ih.cons y.1).trans (List.Perm.swap b y.1 _)
theorem blks_mem {ps : List Pl} {b : Nat} {l : Ents} (h : some (b, l) ∈ ps) : b ∈ blks ps := List.mem_filterMap.2 ⟨_, h, rfl⟩
theorem TabAt.lt {w : World} {a : Nat} {ps : List Pl} (h : TabAt w a ps) : a < w.heap.size ∧ ∀ b ∈ blks ps, b < w.heap.size := by
  refine ⟨(Array.getElem?_eq_some_iff.1 h.row).1, fun b hb => ?_⟩
  obtain ⟨x, hx, e⟩ := List.mem_filterMap.1 hb
  cases x with
  | none => cases e
  | some y =>
    have : y.1 = b := by simpa using e
    subst this
    exact (h.map _ hx y.1 y.2 rfl).lt
theorem idx_one : ∀ {ps : List Pl}, (blks ps).Nodup → ∀ {i j b : Nat}, (ps.map fun x => x.map (·.1))[i]? = some (some b) → (ps.map fun x => x.map (·.1))[j]? = some (some b) → i = j
  | [], _, i, j, b, h, _ => by simp at h
  | none :: ps, hn, i, j, b, h1, h2 => by
    have hn' : (blks ps).Nodup := hn
    cases i with
    | zero => simp at h1
    | succ i =>
      cases j with
      | zero => simp at h2
      | succ j => exact congrArg (· + 1) (idx_one hn' (i := i) (j := j) (b := b) (by simpa using h1) (by simpa using h2))
  | some y :: ps, hn, i, j, b, h1, h2 => by
    have hn' : (y.1 :: blks ps).Nodup := hn
    obtain ⟨hy, hn2⟩ := List.nodup_cons.1 hn'
    have key : ∀ k : Nat, (ps.map fun x => x.map (·.1))[k]? = some (some b) → b ∈ blks ps := fun k hk => by
      obtain ⟨x, hx, e⟩ := List.mem_map.1 (List.mem_of_getElem? hk)
      exact List.mem_filterMap.2 ⟨x, hx, e⟩
    cases i with
    | zero =>
      have e1 : y.1 = b := by simpa using h1
      cases j with
      | zero => rfl
      | succ j =>
        have := key j (by simpa using h2)
        rw [← e1] at this
        exact absurd this hy
    | succ i =>
      cases j with
      | zero =>
        have e1 : y.1 = b := by simpa using h2
        have := key i (by simpa using h1)
        rw [← e1] at this
        exact absurd this hy
      | succ j => exact congrArg (· + 1) (idx_one hn2 (i := i) (j := j) (b := b) (by simpa using h1) (by simpa using h2))
/-- one of its maps has turned -/
theorem TabAt.turn {w w' : World} {a i b : Nat} {ps : List Pl} {l l' : Ents} (h : TabAt w a ps) (hi : ps[i]? = some (some (b, l))) (hm : MapAt w' b (mapE l')) (ho : OnlyMap w w' b) (hab : a ≠ b) (hnd : (blks ps).Nodup) : TabAt w' a (ps.set i (some (b, l'))) := by
  have hil : i < ps.length := (List.getElem?_eq_some_iff.1 hi).1
  refine ⟨?_, fun x hx b2 l2 e => ?_⟩
  · rw [ho.2.2.2.2 a hab, h.row]
    congr 3
    refine List.ext_getElem? fun j => ?_
    rw [List.getElem?_map, List.getElem?_map, List.getElem?_set]
    by_cases e : i = j
    · subst e
      rw [if_pos rfl, if_pos hil, hi]
      rfl
    · rw [if_neg e]
  · obtain ⟨j, hj, hx2⟩ := List.getElem_of_mem hx
    have hj2 : j < ps.length := by simpa using hj
    rw [List.getElem_set] at hx2
    by_cases ej : i = j
    · subst ej
      rw [if_pos rfl] at hx2
      rw [← hx2] at e
      injection e with e
      injection e with e1 e2
      rw [← e1, ← e2]
      exact hm
    · rw [if_neg ej] at hx2
      have hmem : x ∈ ps := by rw [← hx2]; exact List.getElem_mem hj2
      have hb2 := h.map x hmem b2 l2 e
      refine hb2.same (ho.2.2.2.2 b2 fun eb => ?_)
      subst eb
      have e1 : (ps.map fun x => x.map (·.1))[i]? = some (some b2) := by rw [List.getElem?_map, hi]; rfl
      have e2 : (ps.map fun x => x.map (·.1))[j]? = some (some b2) := by rw [List.getElem?_map, List.getElem?_eq_getElem hj2, hx2, e]; rfl
      exact ej (idx_one hnd e1 e2)
theorem TabAt.fresh {w : World} {a i b : Nat} {ps : List Pl} (h : TabAt w a ps) (hm : MapAt w b []) : TabAt (w.setCell ⟨a, i, none⟩ (.map (some b))) a (ps.set i (some (b, []))) := by
  have hne : ∀ c m, MapAt w c m → c ≠ a := fun c m hc e => by
    obtain ⟨es, clock, h1, _⟩ := hc
    rw [e, h.row] at h1
    cases h1
  refine ⟨?_, fun x hx b2 l2 e => ?_⟩
  · rw [heap_setCell_same w a i _ _ (.map (some b)) h.row]
    congr 3
    rw [List.map_set, List.setIfInBounds_toArray]
    rfl
  · obtain ⟨j, hj, hx2⟩ := List.getElem_of_mem hx
    have hj2 : j < ps.length := by simpa using hj
    rw [List.getElem_set] at hx2
    by_cases ej : i = j
    · subst ej
      rw [if_pos rfl] at hx2
      rw [← hx2] at e
      injection e with e
      injection e with e1 e2
      rw [← e1, ← e2]
      exact hm.same (set_block_other w ⟨a, i, none⟩ _ b (hne b _ hm))
    · rw [if_neg ej] at hx2
      have hmem : x ∈ ps := by rw [← hx2]; exact List.getElem_mem hj2
      have hb2 := h.map x hmem b2 l2 e
      exact hb2.same (set_block_other w ⟨a, i, none⟩ _ b2 (hne b2 _ hb2))
theorem map_empty (w : World) : MapAt (w.alloc (.map #[] 0)) w.heap.size [] := ⟨#[], 0, heap_alloc_new w _, rfl, MapKept.stamped_empty 0⟩
end Go.Proofs.YtnoalklbgncajaaDoor.Dct
