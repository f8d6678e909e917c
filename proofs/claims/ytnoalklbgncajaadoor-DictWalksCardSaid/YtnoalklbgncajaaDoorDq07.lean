/- Chapter 07: what a dict holds: plain law. -/
import Derived.Test.YtnoalklbgncajaaDoorDh07
import Derived.Test.YtnoalklbgncajaaDoorRngS
namespace Go.Proofs.YtnoalklbgncajaaDoor.Dct
open Go Go.RowKit Go.Proofs.YtnoalklbgncajaaDoor.Pin Go.Proofs.YtnoalklbgncajaaDoor.Mps Go.Proofs.YtnoalklbgncajaaDoor.Bok Go.Proofs.YtnoalklbgncajaaDoor.Uw Go.Proofs.YtnoalklbgncajaaDoor.Sip
/-- the entries of a place, of a table, of a dict -/
def plE (z : Pl) : Ents := (z.map (·.2)).getD []
def flat (ps : List Pl) : Ents := ps.flatMap plE
def flat1 : Option (Nat × List Pl) → Ents
  | none => []
  | some x => flat x.2
def St.ents (s : St) : Ents := flat s.p0 ++ flat1 s.t1
/-- every entry lies at its place -/
def TOk (sd : BitVec 64) (ps : List Pl) : Prop := ∀ i b l, ps[i]? = some (some (b, l)) → ∀ x ∈ l, plc sd x.1 ps.length = i ∧ x.1.size ≤ 140737488351232
def Pw (n : Nat) : Prop := ∃ a, 2 ≤ a ∧ n = 2 ^ a
structure Inv (s : St) : Prop where
  t0 : TOk s.sd s.p0
  t1 : ∀ x, s.t1 = some x → TOk s.sd x.2
  mvn : s.t1 = none → s.mv = 0
  mvs : ∀ x, s.t1 = some x → s.mv < s.p0.length ∧ ∀ i, i < s.mv → s.p0[i]? = some none
  nd : (s.ents.map (·.1)).Nodup
  cnt : s.n = s.ents.length
  pow0 : Pw s.p0.length
  pow1 : ∀ x, s.t1 = some x → Pw x.2.length
theorem mem_flat {ps : List Pl} {y : ByteArray × Int} : y ∈ flat ps ↔ ∃ (i b : Nat) (l : Ents), ps[i]? = some (some (b, l)) ∧ y ∈ l := by
  unfold flat
  rw [List.mem_flatMap]
  constructor
  · rintro ⟨z, hz, hy⟩
    obtain ⟨i, hi⟩ := List.mem_iff_getElem?.1 hz
    cases z with
    | none => simp [plE] at hy
    | some q => exact ⟨i, q.1, q.2, hi, by simpa [plE] using hy⟩
  · rintro ⟨i, b, l, hi, hy⟩
    exact ⟨_, List.mem_of_getElem? hi, by simpa [plE] using hy⟩
theorem flat_cons (z : Pl) (ps : List Pl) : flat (z :: ps) = plE z ++ flat ps := rfl
/-- one place taken out of a table -/
theorem flat_at : ∀ {ps : List Pl} {i : Nat} {z : Pl}, ps[i]? = some z → ∃ rest, (flat ps).Perm (plE z ++ rest) ∧ ∀ z', (flat (ps.set i z')).Perm (plE z' ++ rest)
  | [], i, z, h => by simp at h
  | y :: ps, 0, z, h => by
    have e : y = z := by simpa using h
    subst e
    exact ⟨flat ps, List.Perm.refl _, fun z' => List.Perm.refl _⟩
  | y :: ps, i + 1, z, h => by
    obtain ⟨rest, h1, h2⟩ := flat_at (ps := ps) (i := i) (z := z) (by simpa using h)
    have key : ∀ (u : Ents) (fs : Ents), fs.Perm (u ++ rest) → (plE y ++ fs).Perm (u ++ (plE y ++ rest)) := fun u fs hp => by
      refine (hp.append_left (plE y)).trans ?_
      rw [← List.append_assoc, ← List.append_assoc]
      exact List.perm_append_comm.append_right rest
    exact ⟨plE y ++ rest, key _ _ h1, fun z' => key _ _ (h2 z')⟩
theorem put_flat {w : World} {i : Nat} {k : ByteArray} {v : Int} {ps ps' : List Pl} (h : PutPs w i k v ps ps') : (flat ps').Perm ((k, v) :: flat ps) ∧ ps'.length = ps.length := by
  obtain ⟨b, l, rfl, hz⟩ := h
  refine ⟨?_, by simp⟩
  have hx : ∃ z, ps[i]? = some z ∧ plE z = l := by
    rcases hz with hz | ⟨hz, rfl, _⟩
    · exact ⟨_, hz, rfl⟩
    · exact ⟨_, hz, rfl⟩
  obtain ⟨z, h1, h2⟩ := hx
  obtain ⟨rest, h3, h4⟩ := flat_at h1
  refine (h4 _).trans ?_
  show ((l ++ [(k, v)]) ++ rest).Perm _
  rw [h2] at h3
  have h5 : (l ++ [(k, v)] ++ rest).Perm ((k, v) :: (l ++ rest)) := by
    rw [List.append_assoc]
    exact List.perm_middle
  exact h5.trans (h3.symm.cons _)
theorem put_ok {w : World} {sd : BitVec 64} {k : ByteArray} {v : Int} {ps ps' : List Pl} (h : PutPs w (plc sd k ps.length) k v ps ps') (hk : k.size ≤ 140737488351232) (hT : TOk sd ps) : TOk sd ps' := by
  obtain ⟨b, l, rfl, hz⟩ := h
  intro j b2 l2 hj x hx
  rw [List.length_set]
  by_cases e : plc sd k ps.length = j
  · have hlt : plc sd k ps.length < ps.length := by
      rcases hz with hz | ⟨hz, _⟩ <;> exact (List.getElem?_eq_some_iff.1 hz).1
    rw [← e] at hj
    rw [List.getElem?_set_self hlt] at hj
    injection hj with hj
    injection hj with hj
    injection hj with hj1 hj2
    rw [← hj2] at hx
    rcases List.mem_append.1 hx with hx | hx
    · rcases hz with hz | ⟨_, rfl, _⟩
      · rw [← e]; exact hT _ _ _ hz x hx
      · simp at hx
    · have : x = (k, v) := by simpa using hx
      subst this
      exact ⟨e, hk⟩
  · rw [List.getElem?_set_ne e] at hj
    exact hT j b2 l2 hj x hx
theorem nd_perm {l l' : Ents} (h : l.Perm l') (hn : (l.map (·.1)).Nodup) : (l'.map (·.1)).Nodup := (h.map _).nodup_iff.1 hn
/-- a key that is new to a table is new at its place -/
theorem new_at {sd : BitVec 64} {ps : List Pl} {k : ByteArray} (h : ∀ x ∈ flat ps, x.1 ≠ k) (b : Nat) (l : Ents) (hz : ps[plc sd k ps.length]? = some (some (b, l))) : ∀ x ∈ l, x.1 ≠ k :=
  fun x hx => h x (mem_flat.2 ⟨_, b, l, hz, hx⟩)
theorem set_none_ok {sd : BitVec 64} {ps : List Pl} (hT : TOk sd ps) (i : Nat) : TOk sd (ps.set i none) := by
  intro j b l hj x hx
  rw [List.length_set]
  by_cases e : i = j
  · subst e
    by_cases hlt : i < ps.length
    · rw [List.getElem?_set_self hlt] at hj
      injection hj with hj
      cases hj
    · rw [List.getElem?_eq_none (by simpa using hlt)] at hj
      cases hj
  · rw [List.getElem?_set_ne e] at hj
    exact hT j b l hj x hx
theorem flat_nones : ∀ {ps : List Pl}, (∀ i, i < ps.length → ps[i]? = some none) → flat ps = []
  | [], _ => rfl
  | z :: ps, h => by
    have h0 := h 0 (by simp)
    have e : z = none := by simpa using h0
    subst e
    rw [flat_cons, flat_nones (ps := ps) (fun i hi => by simpa using h (i + 1) (by simpa using hi))]
    rfl
/-- the dict when a place has been moved -/
def St.moved (s : St) (x : Nat × List Pl) (ps : List Pl) : St := { s with p0 := s.p0.set s.mv none, t1 := some (x.1, ps), mv := s.mv + 1 }
def St.swapped (s : St) (x : Nat × List Pl) (ps : List Pl) : St := { s with a0 := x.1, p0 := ps, t1 := none, mv := 0 }
theorem moved_inv {s : St} {x : Nat × List Pl} {ps : List Pl} {z : Pl} (h : Inv s) (ht : s.t1 = some x) (hz : s.p0[s.mv]? = some z) (hp : (flat ps).Perm (plE z ++ flat x.2)) (hl : ps.length = x.2.length) (hT : TOk s.sd ps) :
    (flat (s.p0.set s.mv none) ++ flat ps).Perm s.ents ∧ (s.mv + 1 < s.p0.length → Inv (s.moved x ps)) ∧ (s.mv + 1 = s.p0.length → Inv (s.swapped x ps) ∧ (s.swapped x ps).ents.Perm s.ents) := by
  obtain ⟨rest, h1, h2⟩ := flat_at hz
  have he : s.ents = flat s.p0 ++ flat x.2 := by unfold St.ents; rw [ht]; rfl
  have hP : (flat (s.p0.set s.mv none) ++ flat ps).Perm s.ents := by
    rw [he]
    have h3 : (flat (s.p0.set s.mv none)).Perm rest := h2 none
    refine (h3.append hp).trans ?_
    refine List.Perm.trans ?_ (h1.symm.append_right _)
    rw [← List.append_assoc]
    exact List.perm_append_comm.append_right _
  obtain ⟨hm1, hm2⟩ := h.mvs x ht
  have hnil : ∀ i, i < s.mv + 1 → (s.p0.set s.mv none)[i]? = some none := fun i hi => by
    by_cases e : s.mv = i
    · rw [← e, List.getElem?_set_self hm1]
    · rw [List.getElem?_set_ne e]
      exact hm2 i (by omega)
  refine ⟨hP, fun hlt => ⟨set_none_ok h.t0 _, fun y hy => ?_, fun hy => (by cases hy), fun y hy => ⟨?_, hnil⟩, ?_, ?_, ?_, fun y hy => ?_⟩, fun heq => ?_⟩
  · cases hy; exact hT
  · show s.mv + 1 < (s.p0.set s.mv none).length
    simpa using hlt
  · exact nd_perm hP.symm h.nd
  · show s.n = _
    rw [h.cnt]
    exact hP.symm.length_eq
  · show Pw (s.p0.set s.mv none).length
    simpa using h.pow0
  · cases hy
    rw [hl]
    exact h.pow1 x ht
  · have hz2 : flat (s.p0.set s.mv none) = [] := flat_nones (fun i hi => hnil i (by simp at hi; omega))
    rw [hz2] at hP
    have hP2 : (s.swapped x ps).ents.Perm s.ents := by
      show (flat ps ++ flat1 none).Perm _
      simpa [flat1] using hP
    refine ⟨⟨hT, fun y hy => (by cases hy), fun _ => rfl, fun y hy => (by cases hy), nd_perm hP2.symm h.nd, ?_, ?_, fun y hy => (by cases hy)⟩, hP2⟩
    · show s.n = _
      rw [h.cnt]
      exact hP2.symm.length_eq
    · show Pw ps.length
      rw [hl]
      exact h.pow1 x ht
end Go.Proofs.YtnoalklbgncajaaDoor.Dct
