/- Chapter 07: Step: the memory when a place has been moved. -/
import Derived.Test.YtnoalklbgncajaaDoorDq07
namespace Go.Proofs.YtnoalklbgncajaaDoor.Dct
open Go Go.RowKit Go.Proofs.YtnoalklbgncajaaDoor.Pin Go.Proofs.YtnoalklbgncajaaDoor.Mps Go.Proofs.YtnoalklbgncajaaDoor.Bok Go.Proofs.YtnoalklbgncajaaDoor.Uw Go.Proofs.YtnoalklbgncajaaDoor.Sip
theorem blks_none_sub : ∀ (ps : List Pl) (i : Nat), (blks (ps.set i none)).Sublist (blks ps)
  | [], i => by simp [blks]
  | z :: ps, 0 => by
    cases z with
    | none => simp [blks]
    | some y => simp [blks]
  | z :: ps, i + 1 => by
    have ih := blks_none_sub ps i
    cases z with
    | none => simpa [blks] using ih
    | some y => simpa [blks] using ih
theorem TabAt.gone {w : World} {a i : Nat} {ps : List Pl} (h : TabAt w a ps) : TabAt (w.setCell ⟨a, i, none⟩ (.map none)) a (ps.set i none) := by
  have hne : ∀ c m, MapAt w c m → c ≠ a := fun c m hc e => by
    obtain ⟨es, clock, h1, _⟩ := hc
    rw [e, h.row] at h1
    cases h1
  refine ⟨?_, fun x hx b2 l2 e => ?_⟩
  · rw [heap_setCell_same w a i _ _ (.map none) h.row]
    congr 3
    rw [List.map_set, List.setIfInBounds_toArray]
    rfl
  · obtain ⟨j, hj, hx2⟩ := List.getElem_of_mem hx
    have hj2 : j < ps.length := by simpa using hj
    rw [List.getElem_set] at hx2
    by_cases ej : i = j
    · subst ej
      rw [if_pos rfl] at hx2
      rw [← hx2] at e
      cases e
    · rw [if_neg ej] at hx2
      have hmem : x ∈ ps := by rw [← hx2]; exact List.getElem_mem hj2
      have hb2 := h.map x hmem b2 l2 e
      exact hb2.same (set_block_other w ⟨a, i, none⟩ _ b2 (hne b2 _ hb2))
/-- a place of the old table is given up -/
theorem DAt.gone0 {w : World} {d i : Nat} {s : St} {x : Nat × List Pl} (h : DAt w d s) (ht : s.t1 = some x) : DAt (w.setCell ⟨s.a0, i, none⟩ (.map none)) d { s with p0 := s.p0.set i none } := by
  have hap := h.apart
  rw [own_some ht] at hap
  obtain ⟨n1, n2⟩ := List.nodup_cons.1 hap
  obtain ⟨n3, n4⟩ := List.nodup_cons.1 n2
  have hbd : d ≠ s.a0 := fun e => n1 (by rw [← e]; simp)
  have hso : ∀ k, k ≠ s.a0 → (w.setCell ⟨s.a0, i, none⟩ (.map none)).heap[k]? = w.heap[k]? := fun k hk => set_block_other _ ⟨s.a0, i, none⟩ _ k hk
  refine h.with0' (hso d hbd) h.tab0.gone (by simp) (fun y hy => ?_) ?_
  · have : y = x := by rw [ht] at hy; exact (Option.some.inj hy).symm
    subst this
    exact (h.tab1 y ht).frm (own := fun r => r = s.a0) ⟨rfl, rfl, rfl, by simp, fun k _ hk => hso k hk⟩ (fun e => n3 (by rw [← e]; simp)) (fun c hc e => n3 (by rw [← e]; simp [hc]))
  · rw [own_some (x := x) (by exact ht)]
    exact hap.sublist ((((blks_none_sub s.p0 i).append_right _).cons_cons s.a0).cons_cons d)
/-- only the dict's own cells have turned -/
theorem DAt.top_turn {w w' : World} {d : Nat} {s : St} {s' : St} (h : DAt w d s) (hd : w'.heap[d]? = some (.cells s'.cells 51 (0, 0))) (ho : ∀ k, k ≠ d → w'.heap[k]? = w.heap[k]?) (e0 : s'.a0 = s.a0) (e1 : s'.p0 = s.p0) (e2 : s'.t1 = s.t1) : DAt w' d s' := by
  have hap := h.apart
  have hown : s'.own d = s.own d := by unfold St.own; rw [e0, e1, e2]
  have key : ∀ a ps, TabAt w a ps → a ≠ d → (∀ b ∈ blks ps, b ≠ d) → TabAt w' a ps := fun a ps hT ha hb =>
    ⟨(ho a ha).trans hT.row, fun x hx b l e => (hT.map x hx b l e).same (ho b (hb b (List.mem_filterMap.2 ⟨x, hx, by rw [e]; rfl⟩)))⟩
  have hnd : ∀ b ∈ s.own d, b ≠ d ∨ b = d := fun b _ => by omega
  have h1 : d ∉ (s.own d).tail := (List.nodup_cons.1 hap).1
  refine ⟨hd, ?_, fun x hx => ?_, by rw [hown]; exact hap, by rw [e1]; exact h.len0, by rw [e2]; exact h.len1⟩
  · rw [e0, e1]
    exact key _ _ h.tab0 (fun e => h1 (by simp [St.own, ← e])) (fun b hb e => h1 (by simp [St.own, ← e, hb]))
  · rw [e2] at hx
    exact key _ _ (h.tab1 x hx) (fun e => h1 (by simp [St.own, hx, ← e])) (fun b hb e => h1 (by simp [St.own, hx, ← e, hb]))
/-- the new table takes the old one's place -/
theorem DAt.swap {w w' : World} {d : Nat} {s : St} {x : Nat × List Pl} (h : DAt w d s) (ht : s.t1 = some x) (hd : w'.heap[d]? = some (.cells (St.cells { s with a0 := x.1, p0 := x.2, t1 := none, mv := 0 }) 51 (0, 0))) (ho : ∀ k, k ≠ d → w'.heap[k]? = w.heap[k]?) : DAt w' d { s with a0 := x.1, p0 := x.2, t1 := none, mv := 0 } := by
  have hap := h.apart
  rw [own_some ht] at hap
  obtain ⟨n1, n2⟩ := List.nodup_cons.1 hap
  have hs : (d :: x.1 :: blks x.2).Sublist (d :: s.a0 :: (blks s.p0 ++ x.1 :: blks x.2)) := ((List.sublist_append_right _ _).trans (List.sublist_cons_self _ _)).cons_cons d
  refine ⟨hd, ?_, fun y hy => (by cases hy), ?_, h.len1 x ht, fun y hy => (by cases hy)⟩
  · have hT := h.tab1 x ht
    exact ⟨(ho _ (fun e => n1 (by rw [← e]; simp))).trans hT.row, fun y hy b l e => (hT.map y hy b l e).same (ho b (fun e2 => n1 (by rw [← e2]; have : b ∈ blks x.2 := List.mem_filterMap.2 ⟨y, hy, by rw [e]; rfl⟩; simp [this])))⟩
  · rw [own_none rfl]
    exact hap.sublist hs
end Go.Proofs.YtnoalklbgncajaaDoor.Dct
