/- Chapter 09: a list of skips as the sorted list that it holds. -/
import Derived.Test.YtmlaackdcnpjmaaDoorPut09
namespace Go.Proofs.YtmlaackdcnpjmaaDoor.Skp
open Go Go.RowKit Go.Proofs.YtmlaackdcnpjmaaDoor.Pin Go.Proofs.YtmlaackdcnpjmaaDoor.Flt
structure SkL (w : World) (own : Nat → Prop) (s : Nat) (L : List Sc) : Prop where
  srt : Srt L
  rep : ∃ seed bl ht mem, seed < 2 ^ 64 ∧ Sk w own s seed L.length bl ht mem ∧ ∀ i (h : i < L.length), mem (i + 1) = L[i]
theorem SkL.below {w w' : World} {own : Nat → Prop} {s : Nat} {L : List Sc} (h : SkL w own s L) (hb : Below w.heap.size w w') : SkL w' own s L := by
  obtain ⟨h1, seed, bl, ht, mem, h2, h3, h4⟩ := h
  exact ⟨h1, seed, bl, ht, mem, h2, h3.below hb, h4⟩
/-- .., where other things turn -/
theorem SkL.frm {w w' : World} {own own' : Nat → Prop} {s : Nat} {L : List Sc} (h : SkL w own s L) (hf : Frm own' w w') (ho : ∀ k, k < w.heap.size → own k → ¬ own' k) : SkL w' own s L := by
  obtain ⟨h1, seed, bl, ht, mem, h2, h3, h4⟩ := h
  exact ⟨h1, seed, bl, ht, mem, h2, h3.same (hf.block _ h3.slt (ho _ h3.slt h3.owns)) (fun p hp => hf.block _ (h3.lt hp) (ho _ (h3.lt hp) (h3.ownb p hp))), h4⟩
section
variable {mem : Nat → Sc} {L : List Sc} (hm : ∀ i (h : i < L.length), mem (i + 1) = L[i])
include hm
theorem cut_pos {q : Sc → Bool} {P : Nat} (hP : Cut L q P) : ∀ p, 0 < p → p ≤ L.length → (q (mem p) = true ↔ p ≤ P) := fun p h0 hp => by
  have h1 := hm (p - 1) (by omega)
  rw [show p - 1 + 1 = p by omega] at h1
  rw [h1, hP.2 (p - 1) (by omega)]
  omega
theorem hit_pos {P : Nat} {m : Sc} : hitB L.length mem P m = true ↔ Hit L P m := by
  unfold hitB Hit
  by_cases h : P < L.length
  · have h1 := hm P h
    rw [h1]
    simp only [h, decide_true, Bool.true_and, Bool.and_eq_true, beq_iff_eq, exists_true_left]
    exact ⟨fun ⟨a, b⟩ => ⟨a, text_ext b⟩, fun ⟨a, b⟩ => ⟨a, by rw [b]⟩⟩
  · simp [h]
theorem ins_mem {P : Nat} {c : Sc} (hP : P ≤ L.length) : ∀ i (h : i < (L.take P ++ c :: L.drop P).length), ins P mem c (i + 1) = (L.take P ++ c :: L.drop P)[i] := fun i h => by
  have hl : (L.take P).length = P := by simp; omega
  rcases Nat.lt_trichotomy i P with k | k | k
  · rw [ins_le (by omega), List.getElem_append_left (by omega), List.getElem_take]
    exact hm i (by omega)
  · subst k
    rw [ins_at, List.getElem_append_right (by omega)]
    simp [hl]
  · have hlen : i < L.length + 1 := by simp at h; omega
    rw [ins_gt k, List.getElem_append_right (by omega)]
    obtain ⟨d, rfl⟩ : ∃ d, i = P + 1 + d := ⟨i - P - 1, by omega⟩
    have h1 := hm (P + d) (by omega)
    rw [show P + d + 1 = P + 1 + d by omega] at h1
    rw [h1]
    simp only [hl, show P + 1 + d - P = d + 1 by omega, List.getElem_cons_succ, List.getElem_drop]
end
theorem len_ins {L : List Sc} {P : Nat} {c : Sc} (hP : P ≤ L.length) : (L.take P ++ c :: L.drop P).length = L.length + 1 := by simp; omega
/-- what Put makes of the list -/
def PutL (L : List Sc) (m : Sc) (ok : Bool) (er : Int) (L' : List Sc) : Prop :=
  (¬ (Num m.2 ∧ m.1.size ≤ 65536) ∧ ok = false ∧ er = 1 ∧ L' = L) ∨ (Num m.2 ∧ m.1.size ≤ 65536 ∧ nrm m ∈ L ∧ ok = false ∧ er = 0 ∧ L' = L) ∨
  (Num m.2 ∧ m.1.size ≤ 65536 ∧ nrm m ∉ L ∧ ok = true ∧ er = 0 ∧ L'.length = L.length + 1 ∧ ∀ x, x ∈ L' ↔ x ∈ L ∨ x = nrm m)
def PutE (w w' : World) (own : Nat → Prop) (s : Nat) (L : List Sc) (m : Sc) (e : Ending) : Prop :=
  ∃ ok er L' own', e = .returned (.tuple #[.bool ok, .int .i64 er]) ∧ PutL L m ok er L' ∧ SkL w' own' s L' ∧ Frm own w w' ∧ ∀ k, own' k → own k ∨ w.heap.size ≤ k
theorem put_list {w : World} {own : Nat → Prop} {s : Nat} {L : List Sc} (m : Sc) (hL : SkL w own s L) (h64 : m.2 < 2 ^ 64) (hT : Tab w) (hfew : L.length < 1099511627776) :
    Calls Tryd.prog 21 #[.pointer (some ⟨s, 0, none⟩), scV m] w fun e w' => PutE w w' own s L m e := by
  obtain ⟨hs, seed, bl, ht, mem, h1, h2, h3⟩ := id hL
  by_cases hok : Num m.2 ∧ m.1.size ≤ 65536
  · obtain ⟨hn, hz⟩ := hok
    obtain ⟨P, hP⟩ := cut_less hs (nrm m)
    have hq := cut_pos h3 hP
    have hcn := nrm_cn hn h64
    have hnn : nrm (nrm m) = nrm m := by
      unfold nrm
      by_cases h0 : rung m.2 = 0
      · simp [h0]
      · simp [h0]
    have hhit := (hit_pos h3 (P := P) (m := nrm m)).trans (hit_iff hs hP hcn.lt)
    rw [hnn] at hhit
    cases hb : hitB L.length mem P (nrm m) with
    | true =>
      refine (put_dup m P w h2 hn h64 hz hP.1 hq hb).mono ?_
      rintro e w' ⟨rfl, hb'⟩
      exact ⟨false, 0, L, own, rfl, .inr (.inl ⟨hn, hz, (hhit.1 hb).2, rfl, rfl, rfl⟩), hL.below hb', Frm.of_below hb', fun k hk => .inl hk⟩
    | false =>
      have hnot : nrm m ∉ L := fun hm => by rw [hhit.2 ⟨hcn.num, hm⟩] at hb; cases hb
      refine (put_new m P w h2 hn h64 hz hP.1 hq hb hT h1 hfew).mono ?_
      rintro e w' ⟨rfl, bx, H, k1, k2, k3⟩
      have hlen := len_ins (c := nrm m) hP.1
      refine ⟨true, 0, L.take P ++ nrm m :: L.drop P, fun k => own k ∨ k = bx, rfl, .inr (.inr ⟨hn, hz, hnot, rfl, rfl, hlen, fun x => mem_ins⟩), ⟨srt_ins hs hcn hP hnot, seed, ins P bl bx, ins P ht H, ins P mem (nrm m), h1, by rw [hlen]; exact k2, ins_mem h3 hP.1⟩, k3, fun k hk => ?_⟩
      rcases hk with hk | rfl
      · exact .inl hk
      · exact .inr k1
  · have hm : fEq m.2 m.2 = false ∨ 65536 < m.1.size := by
      by_cases hn : Num m.2
      · exact .inr (by
          rcases Nat.lt_or_ge 65536 m.1.size with k | k
          · exact k
          · exact absurd ⟨hn, k⟩ hok)
      · exact .inl (f_none (fun h => hn h.1)).2
    refine (put_bad m w h2 hm).mono ?_
    rintro e w' ⟨rfl, hb'⟩
    exact ⟨false, 1, L, own, rfl, .inl ⟨hok, rfl, rfl, rfl⟩, hL.below hb', Frm.of_below hb', fun k hk => .inl hk⟩
/-- where m stands, and whether it does -/
def RankL (L : List Sc) (m : Sc) (r : Int) (ok : Bool) : Prop := (Num m.2 ∧ nrm m ∈ L ∧ ok = true ∧ ∃ i : Nat, r = (i : Int) ∧ L[i]? = some (nrm m)) ∨ (¬ (Num m.2 ∧ nrm m ∈ L) ∧ ok = false ∧ r = 0)
theorem rank_list {w : World} {own : Nat → Prop} {s : Nat} {L : List Sc} (m : Sc) (hL : SkL w own s L) (h64 : m.2 < 2 ^ 64) :
    Calls Tryd.prog 14 #[.pointer (some ⟨s, 0, none⟩), scV m] w fun e w' => (∃ r ok, e = .returned (.tuple #[.int .i64 r, .bool ok]) ∧ RankL L m r ok) ∧ Below w.heap.size w w' := by
  obtain ⟨hs, seed, bl, ht, mem, h1, h2, h3⟩ := id hL
  obtain ⟨P, hP⟩ := cut_less hs m
  have hq := cut_pos h3 hP
  have hhit := (hit_pos h3 (P := P) (m := m)).trans (hit_iff hs hP h64)
  refine (rank_any m P w h2 hP.1 hq).mono ?_
  rintro e w' ⟨rfl, hb⟩
  refine ⟨⟨_, _, rfl, ?_⟩, hb⟩
  cases hb' : hitB L.length mem P m with
  | true =>
    obtain ⟨k1, k2⟩ := hhit.1 hb'
    obtain ⟨hlt, g1, g2⟩ := (hit_pos h3).1 hb'
    refine .inl ⟨k1, k2, rfl, P, by simp, ?_⟩
    rw [List.getElem?_eq_getElem hlt]
    congr 1
    have hc := hs.at_ hlt
    rw [fEq_num hc.num k1] at g1
    exact (Prod.ext g2 (same_of hc.lt (nrm_cn k1 h64).lt (by rw [nrm_key]; simpa using g1) hc.pos (nrm_cn k1 h64).pos))
  | false =>
    exact .inr ⟨(fun k => by rw [hhit.2 k] at hb'; cases hb'), rfl, by simp⟩
end Go.Proofs.YtmlaackdcnpjmaaDoor.Skp
