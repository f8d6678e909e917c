/- Chapter 09: SkipCuts, plainly: what is left out, and where the others stand. -/
import Derived.Test.YtmlaackdcnpjmaaDoorAllC09
import Derived.Test.YtmlaackdcnpjmaaDoorBtwN09
namespace Go.Proofs.YtmlaackdcnpjmaaDoor.Skp
open Go Go.RowKit Go.Proofs.YtmlaackdcnpjmaaDoor.Pin Go.Proofs.YtmlaackdcnpjmaaDoor.Flt
theorem filter_at {α : Type} (p : α → Bool) {L : List α} {k : Nat} (hk : k < L.length) (hp : p L[k] = true) : (L.filter p)[((L.take k).filter p).length]? = some L[k] := by
  have e : L.filter p = (L.take k).filter p ++ L[k] :: (L.drop (k + 1)).filter p := by
    conv => lhs; rw [← List.take_append_drop k L, List.drop_eq_getElem_cons hk]
    rw [List.filter_append, List.filter_cons_of_pos hp]
  rw [e, List.getElem?_append_right (Nat.le_refl _)]
  simp
theorem filter_step {α : Type} (p : α → Bool) {L : List α} {k : Nat} (hk : k < L.length) : ((L.take (k + 1)).filter p).length = ((L.take k).filter p).length + (if p L[k] then 1 else 0) := by
  rw [List.take_succ_eq_append_getElem hk, List.filter_append, List.length_append]
  congr 1
  by_cases h : p L[k] = true
  · simp [h]
  · simp [h]
def fGt (a b : Nat) : Bool := FloatKind.f64.format.order a b == some .gt
theorem fGt_num {a b : Nat} (ha : Num a) (hb : Num b) : fGt a b = decide (keyI b < keyI a) := by
  unfold fGt
  rw [order_num ha hb]
  rcases Int.lt_trichotomy (keyI a) (keyI b) with h | h | h
  · rw [show compare (keyI a) (keyI b) = .lt from Int.compare_eq_lt.2 h]
    simp; omega
  · rw [show compare (keyI a) (keyI b) = .eq from Int.compare_eq_eq.2 h]
    simp; omega
  · rw [show compare (keyI a) (keyI b) = .gt from Int.compare_eq_gt.2 h]
    simp; omega
/-- is a member in the range? -/
def keepB (lo hi : Nat) (without within : Bool) (m : Sc) : Bool := (fEq lo lo && fEq hi hi) && (!loB lo without m && hiB hi within m)
/-- the ways out of the test, in its own order -/
inductive Ways7 (lo hi : Nat) (wo wi : Bool) (m : Sc) : Prop
  | nanLo (h1 : fEq lo lo = false) (k : keepB lo hi wo wi m = false)
  | nanHi (h1 : fEq lo lo = true) (h2 : fEq hi hi = false) (k : keepB lo hi wo wi m = false)
  | less (h1 : fEq lo lo = true) (h2 : fEq hi hi = true) (h3 : fLt m.2 lo = true) (k : keepB lo hi wo wi m = false)
  | at_ (h1 : fEq lo lo = true) (h2 : fEq hi hi = true) (h3 : fLt m.2 lo = false) (h4 : fEq m.2 lo = true) (h5 : wo = true) (k : keepB lo hi wo wi m = false)
  | more (h1 : fEq lo lo = true) (h2 : fEq hi hi = true) (h3 : fLt m.2 lo = false) (h4 : fEq m.2 lo = false ∨ fEq m.2 lo = true ∧ wo = false) (h6 : fGt m.2 hi = true) (k : keepB lo hi wo wi m = false)
  | top (h1 : fEq lo lo = true) (h2 : fEq hi hi = true) (h3 : fLt m.2 lo = false) (h4 : fEq m.2 lo = false ∨ fEq m.2 lo = true ∧ wo = false) (h6 : fGt m.2 hi = false) (h7 : fEq m.2 hi = true) (h8 : wi = true) (k : keepB lo hi wo wi m = false)
  | kept (h1 : fEq lo lo = true) (h2 : fEq hi hi = true) (h3 : fLt m.2 lo = false) (h4 : fEq m.2 lo = false ∨ fEq m.2 lo = true ∧ wo = false) (h6 : fGt m.2 hi = false) (h7 : fEq m.2 hi = false ∨ fEq m.2 hi = true ∧ wi = false) (k : keepB lo hi wo wi m = true)
theorem ways7 (lo hi : Nat) (wo wi : Bool) {m : Sc} (hm : Num m.2) : Ways7 lo hi wo wi m := by
  cases h1 : fEq lo lo with
  | false => exact .nanLo h1 (by simp [keepB, h1])
  | true =>
  cases h2 : fEq hi hi with
  | false => exact .nanHi h1 h2 (by simp [keepB, h2])
  | true =>
  have n1 := num_of h1
  have n2 := num_of h2
  have e1 : fGt m.2 hi = !(fLt m.2 hi || fEq m.2 hi) := by
    rw [fGt_num hm n2, fLt_num hm n2, fEq_num hm n2]
    rw [Bool.eq_iff_iff]
    simp
    omega
  have e2 : fLt m.2 hi = true → fEq m.2 hi = false := by
    rw [fLt_num hm n2, fEq_num hm n2]
    simp
    omega
  cases h3 : fLt m.2 lo with
  | true => exact .less h1 h2 h3 (by simp [keepB, loB, h3])
  | false =>
  by_cases h4 : fEq m.2 lo = true ∧ wo = true
  · exact .at_ h1 h2 h3 h4.1 h4.2 (by simp [keepB, loB, h4.1, h4.2])
  · have h4' : fEq m.2 lo = false ∨ fEq m.2 lo = true ∧ wo = false := by
      cases h : fEq m.2 lo <;> cases h' : wo <;> simp_all
    have hl : loB lo wo m = false := by
      rcases h4' with h | ⟨h, h'⟩
      · simp [loB, h3, h]
      · simp [loB, h3, h']
    cases h6 : fGt m.2 hi with
    | true =>
      rw [h6] at e1
      have h7 : fLt m.2 hi = false ∧ fEq m.2 hi = false := by
        simpa using e1.symm
      exact .more h1 h2 h3 h4' h6 (by simp [keepB, hiB, h7.1, h7.2])
    | false =>
      rw [h6] at e1
      by_cases h7 : fEq m.2 hi = true ∧ wi = true
      · have h8 : fLt m.2 hi = false := by
          cases a : fLt m.2 hi with
          | false => rfl
          | true => rw [e2 a] at h7; cases h7.1
        exact .top h1 h2 h3 h4' h6 h7.1 h7.2 (by simp [keepB, hiB, h8, h7.2])
      · have h7' : fEq m.2 hi = false ∨ fEq m.2 hi = true ∧ wi = false := by
          cases h : fEq m.2 hi <;> cases h' : wi <;> simp_all
        refine .kept h1 h2 h3 h4' h6 h7' ?_
        rcases h7' with h | ⟨h, h'⟩
        · have : fLt m.2 hi = true := by
            rw [h] at e1
            simpa using e1.symm
          simp [keepB, h1, h2, hl, hiB, this]
        · simp [keepB, h1, h2, hl, hiB, h, h']
theorem btwC_keep (lo hi : Nat) (wo wi : Bool) (L : List Sc) : (if fEq lo lo && fEq hi hi then btwL lo hi wo wi L else []) = L.filter (keepB lo hi wo wi) := by
  unfold btwL
  cases h : (fEq lo lo && fEq hi hi) with
  | true =>
    rw [if_pos rfl]
    congr 1
    funext m
    simp [keepB, h]
  | false =>
    rw [if_neg (by simp)]
    symm
    rw [List.filter_eq_nil_iff]
    intro m _
    simp [keepB, h]
end Go.Proofs.YtmlaackdcnpjmaaDoor.Skp
