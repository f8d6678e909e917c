/- Chapter 09: Delete, for a list of skips as the sorted list that it holds. -/
import Derived.Test.YtmlaackdcnpjmaaDoorSkM09
import Derived.Test.YtmlaackdcnpjmaaDoorDel09
namespace Go.Proofs.YtmlaackdcnpjmaaDoor.Skp
open Go Go.RowKit Go.Proofs.YtmlaackdcnpjmaaDoor.Pin Go.Proofs.YtmlaackdcnpjmaaDoor.Flt
theorem del_mem {mem : Nat → Sc} {L : List Sc} (hm : ∀ i (h : i < L.length), mem (i + 1) = L[i]) {P : Nat} (hP : P < L.length) : ∀ i (h : i < (L.take P ++ L.drop (P + 1)).length), del P mem (i + 1) = (L.take P ++ L.drop (P + 1))[i] := fun i h => by
  have hl : (L.take P).length = P := by simp; omega
  have hlen : i < L.length - 1 := by simp at h; omega
  by_cases k : i < P
  · rw [del_le (by omega), List.getElem_append_left (by omega), List.getElem_take]
    exact hm i (by omega)
  · rw [del_gt (by omega), List.getElem_append_right (by omega)]
    obtain ⟨d, rfl⟩ : ∃ d, i = P + d := ⟨i - P, by omega⟩
    have h1 := hm (P + d + 1) (by omega)
    rw [h1]
    simp only [hl, List.getElem_drop]
    congr 1
    omega
theorem len_del {L : List Sc} {P : Nat} (hP : P < L.length) : (L.take P ++ L.drop (P + 1)).length = L.length - 1 := by simp; omega
theorem mem_del {L : List Sc} (hs : Srt L) {P : Nat} (hP : P < L.length) : ∀ x, x ∈ L.take P ++ L.drop (P + 1) ↔ x ∈ L ∧ x ≠ L[P] := fun x => by
  rw [List.mem_iff_getElem, List.mem_iff_getElem]
  have hl : (L.take P).length = P := by simp; omega
  constructor
  · rintro ⟨i, hi, rfl⟩
    have hlen : i < L.length - 1 := by rw [len_del hP] at hi; exact hi
    by_cases k : i < P
    · rw [List.getElem_append_left (by omega), List.getElem_take]
      refine ⟨⟨i, by omega, rfl⟩, fun he => ?_⟩
      have := hs.lt k hP
      rw [he, less_irr (hs.at_ hP).num] at this
      cases this
    · rw [List.getElem_append_right (by omega), List.getElem_drop]
      refine ⟨⟨_, by omega, rfl⟩, fun he => ?_⟩
      have := hs.lt (i := P) (j := P + 1 + (i - (L.take P).length)) (by omega) (by omega)
      rw [he, less_irr (hs.at_ hP).num] at this
      cases this
  · rintro ⟨⟨i, hi, rfl⟩, hne⟩
    rcases Nat.lt_trichotomy i P with k | k | k
    · refine ⟨i, by rw [len_del hP]; omega, ?_⟩
      rw [List.getElem_append_left (by omega), List.getElem_take]
    · subst k; exact absurd rfl hne
    · refine ⟨i - 1, by rw [len_del hP]; omega, ?_⟩
      rw [List.getElem_append_right (by omega), List.getElem_drop]
      congr 1
      omega
/-- what Delete makes of the list -/
def DelL (L : List Sc) (m : Sc) (ok : Bool) (L' : List Sc) : Prop :=
  (¬ (Num m.2 ∧ nrm m ∈ L) ∧ ok = false ∧ L' = L) ∨ (Num m.2 ∧ nrm m ∈ L ∧ ok = true ∧ L'.length + 1 = L.length ∧ ∀ x, x ∈ L' ↔ x ∈ L ∧ x ≠ nrm m)
def DelE (w w' : World) (own : Nat → Prop) (s : Nat) (L : List Sc) (m : Sc) (e : Ending) : Prop :=
  ∃ ok L', e = .returned (.bool ok) ∧ DelL L m ok L' ∧ SkL w' own s L' ∧ Frm own w w'
theorem del_list {w : World} {own : Nat → Prop} {s : Nat} {L : List Sc} (m : Sc) (hL : SkL w own s L) (h64 : m.2 < 2 ^ 64) :
    Calls Tryd.prog 19 #[.pointer (some ⟨s, 0, none⟩), scV m] w fun e w' => DelE w w' own s L m e := by
  obtain ⟨hs, seed, bl, ht, mem, h1, h2, h3⟩ := id hL
  obtain ⟨P, hP⟩ := cut_less hs m
  have hq := cut_pos h3 hP
  have hhit := (hit_pos h3 (P := P) (m := m)).trans (hit_iff hs hP h64)
  cases hb : hitB L.length mem P m with
  | false =>
    refine (del_no m P w h2 hP.1 hq hb).mono ?_
    rintro e w' ⟨rfl, hb'⟩
    exact ⟨false, L, rfl, .inl ⟨(fun k => by rw [hhit.2 k] at hb; cases hb), rfl, rfl⟩, hL.below hb', Frm.of_below hb'⟩
  | true =>
    obtain ⟨k1, k2⟩ := hhit.1 hb
    obtain ⟨hlt, g1, g2⟩ := (hit_pos h3).1 hb
    have he : L[P] = nrm m := by
      have hc := hs.at_ hlt
      rw [fEq_num hc.num k1] at g1
      exact (Prod.ext g2 (same_of hc.lt (nrm_cn k1 h64).lt (by rw [nrm_key]; simpa using g1) hc.pos (nrm_cn k1 h64).pos))
    obtain ⟨n, hn⟩ : ∃ n, L.length = n + 1 := ⟨L.length - 1, by omega⟩
    rw [hn] at h2 hb hq hlt
    refine (del_yes m P w h2 (by omega) hq hb).mono ?_
    rintro e w' ⟨rfl, k3, k4⟩
    have hlen := len_del (L := L) (P := P) (by omega)
    refine ⟨true, L.take P ++ L.drop (P + 1), rfl, .inr ⟨k1, k2, rfl, by omega, fun x => ?_⟩, ⟨srt_erase hs P, seed, del P bl, del P ht, del P mem, h1, ?_, del_mem h3 (by omega)⟩, k4⟩
    · rw [mem_del hs (by omega), he]
    · rw [hlen, hn]; exact k3
end Go.Proofs.YtmlaackdcnpjmaaDoor.Skp
