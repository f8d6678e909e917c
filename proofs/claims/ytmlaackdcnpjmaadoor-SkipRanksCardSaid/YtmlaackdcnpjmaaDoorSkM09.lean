/- Chapter 09: a list of skips as the sorted list that it holds: what is asked of it. -/
import Derived.Test.YtmlaackdcnpjmaaDoorNew09
import Derived.Test.YtmlaackdcnpjmaaDoorChk09
namespace Go.Proofs.YtmlaackdcnpjmaaDoor.Skp
open Go Go.RowKit Go.Proofs.YtmlaackdcnpjmaaDoor.Pin Go.Proofs.YtmlaackdcnpjmaaDoor.Flt
section
variable {w : World} {own : Nat → Prop} {s : Nat} {L : List Sc}
theorem at_list (k : Nat) (hk : k < L.length) (hL : SkL w own s L) : Calls Tryd.prog 18 #[.pointer (some ⟨s, 0, none⟩), .int .i64 (k : Int)] w fun e w' => e = .returned (.tuple #[scV L[k], .bool true]) ∧ Below w.heap.size w w' := by
  obtain ⟨hs, seed, bl, ht, mem, h1, h2, h3⟩ := hL
  rw [← h3 k hk]
  exact at_yes k hk w h2
theorem at_none (k : Int) (hk : k < 0 ∨ (L.length : Int) ≤ k) (hL : SkL w own s L) : Calls Tryd.prog 18 #[.pointer (some ⟨s, 0, none⟩), .int .i64 k] w fun e w' => e = .returned (.tuple #[.agg zSc, .bool false]) ∧ Below w.heap.size w w' := by
  obtain ⟨hs, seed, bl, ht, mem, h1, h2, h3⟩ := hL
  exact at_no k hk w h2
theorem len_list (hL : SkL w own s L) : Calls Tryd.prog 12 #[.pointer (some ⟨s, 0, none⟩)] w fun e w' => e = .returned (.int .i64 (L.length : Int)) ∧ w = w' := by
  obtain ⟨hs, seed, bl, ht, mem, h1, h2, h3⟩ := hL
  exact len_any w h2
theorem check_list (hL : SkL w own s L) : Calls Tryd.prog 13 #[.pointer (some ⟨s, 0, none⟩)] w fun e w' => e = .returned (.bool true) ∧ Below w.heap.size w w' := by
  obtain ⟨hs, seed, bl, ht, mem, h1, h2, h3⟩ := hL
  refine check_any w h2 (fun p q hp hpq hq => ?_)
  have e1 := h3 (p - 1) (by omega)
  have e2 := h3 (q - 1) (by omega)
  rw [show p - 1 + 1 = p by omega] at e1
  rw [show q - 1 + 1 = q by omega] at e2
  rw [e1, e2]
  exact hs.lt (by omega) _
theorem filter_range {α : Type} {f : α → Bool} : ∀ {L : List α} {P Q : Nat}, (∀ i (h : i < L.length), f L[i] = true ↔ P ≤ i ∧ i < Q) → L.filter f = (L.drop P).take (Q - P)
  | [], P, Q, _ => by simp
  | x :: L, P, Q, h => by
    have h0 := h 0 (by simp)
    have ih := fun P' Q' h' => filter_range (L := L) (P := P') (Q := Q') (f := f) h'
    cases P with
    | zero =>
      cases Q with
      | zero =>
        have hx : ¬ f x = true := fun k => by have := h0.1 k; omega
        rw [List.filter_cons_of_neg hx, ih 0 0 (fun i hi => by
          have := h (i + 1) (by simpa using hi)
          simp only [List.getElem_cons_succ] at this
          rw [this]; omega)]
        simp
      | succ Q =>
        have hx : f x = true := h0.2 (by omega)
        rw [List.filter_cons_of_pos hx, ih 0 Q (fun i hi => by
          have := h (i + 1) (by simpa using hi)
          simp only [List.getElem_cons_succ] at this
          rw [this]; omega)]
        simp
    | succ P =>
      have hx : ¬ f x = true := fun k => by have := h0.1 k; omega
      rw [List.filter_cons_of_neg hx, ih P (Q - 1) (fun i hi => by
        have := h (i + 1) (by simpa using hi)
        simp only [List.getElem_cons_succ] at this
        rw [this]; omega)]
      simp only [List.drop_succ_cons]
      congr 1
      omega
theorem seg_list {mem : Nat → Sc} (hm : ∀ i (h : i < L.length), mem (i + 1) = L[i]) {P Q : Nat} (hP : P ≤ L.length) (hQ : Q ≤ L.length) : seg mem P (max P Q + 1) = (L.drop P).take (Q - P) := by
  unfold seg
  apply List.ext_getElem
  · simp; omega
  · intro i h1 h2
    have hi : i < max P Q - P := by simpa using h1
    simp only [List.getElem_map, List.getElem_range, List.getElem_take, List.getElem_drop]
    have := hm (P + i) (by omega)
    rw [← this]
    congr 1
    omega
/-- the members of scores from lo to hi -/
def btwL (lo hi : Nat) (without within : Bool) (L : List Sc) : List Sc := L.filter fun m => !loB lo without m && hiB hi within m
theorem fLt_trans {a b c : Nat} (ha : Num a) (hb : Num b) (hc : Num c) : (keyI a < keyI b ∨ keyI a = keyI b) → fLt b c = true → fLt a c = true := fun h k => by
  rw [fLt_num hb hc] at k
  rw [fLt_num ha hc]
  simp at k ⊢
  omega
theorem key_le {a b : Sc} (ha : Num a.2) (hb : Num b.2) (h : lessB a b = true) : keyI a.2 ≤ keyI b.2 := by
  rcases (less_num ha hb).1 h with k | k <;> omega
theorem num_of {x : Nat} (h : fEq x x = true) : Num x := by
  refine Classical.byContradiction fun hn => ?_
  rw [(f_none (fun k => hn k.1)).2] at h
  cases h
theorem lo_iff {lo : Nat} (hlo : Num lo) {without : Bool} {m : Sc} (hm : Num m.2) : loB lo without m = true ↔ keyI m.2 < keyI lo ∨ (without = true ∧ keyI m.2 = keyI lo) := by
  unfold loB
  rw [fLt_num hm hlo, fEq_num hm hlo]
  simp
theorem hi_iff {hi : Nat} (hhi : Num hi) {within : Bool} {m : Sc} (hm : Num m.2) : hiB hi within m = true ↔ keyI m.2 < keyI hi ∨ (within = false ∧ keyI m.2 = keyI hi) := by
  unfold hiB
  rw [fLt_num hm hhi, fEq_num hm hhi]
  simp
theorem btw_list (lo hi : Nat) (without within : Bool) (hlo : fEq lo lo = true) (hhi : fEq hi hi = true) (hL : SkL w own s L) :
    Calls Tryd.prog 15 #[.pointer (some ⟨s, 0, none⟩), .float .f64 lo, .float .f64 hi, .bool without, .bool within] w fun e w' => (∃ v, e = .returned v ∧ Mems w' (fun r => w.heap.size ≤ r) v (btwL lo hi without within L)) ∧ Below w.heap.size w w' := by
  obtain ⟨hs, seed, bl, ht, mem, h1, h2, h3⟩ := hL
  have nlo := num_of hlo
  have nhi := num_of hhi
  obtain ⟨P, hP⟩ : ∃ P, Cut L (loB lo without) P := cut_of (List.Pairwise.imp_of_mem (fun {a b} ha hb hab hq => by
    have h := key_le (hs.cn a ha).num (hs.cn b hb).num hab
    rw [lo_iff nlo (hs.cn b hb).num] at hq
    rw [lo_iff nlo (hs.cn a ha).num]
    rcases hq with k | ⟨k1, k2⟩
    · exact .inl (by omega)
    · by_cases hk : keyI a.2 = keyI lo
      · exact .inr ⟨k1, hk⟩
      · exact .inl (by omega)) hs.ord)
  obtain ⟨Q, hQ⟩ : ∃ Q, Cut L (hiB hi within) Q := cut_of (List.Pairwise.imp_of_mem (fun {a b} ha hb hab hq => by
    have h := key_le (hs.cn a ha).num (hs.cn b hb).num hab
    rw [hi_iff nhi (hs.cn b hb).num] at hq
    rw [hi_iff nhi (hs.cn a ha).num]
    rcases hq with k | ⟨k1, k2⟩
    · exact .inl (by omega)
    · by_cases hk : keyI a.2 = keyI hi
      · exact .inr ⟨k1, hk⟩
      · exact .inl (by omega)) hs.ord)
  have he : btwL lo hi without within L = seg mem P (max P Q + 1) := by
    rw [seg_list h3 hP.1 hQ.1]
    refine filter_range fun i hi' => ?_
    have a1 := hP.2 i hi'
    have a2 := hQ.2 i hi'
    simp only [Bool.and_eq_true, Bool.not_eq_true']
    rw [a2, ← Bool.not_eq_true, a1]
    omega
  rw [he]
  exact btw_yes lo hi without within P Q hlo hhi w h2 hP.1 hQ.1 (cut_pos h3 hP) (cut_pos h3 hQ)
end
end Go.Proofs.YtmlaackdcnpjmaaDoor.Skp
