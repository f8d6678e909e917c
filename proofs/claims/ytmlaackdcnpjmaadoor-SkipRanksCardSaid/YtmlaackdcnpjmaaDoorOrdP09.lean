/- Chapter 09: SkipOrders, plainly. -/
import Derived.Test.YtmlaackdcnpjmaaDoorCutP09
import Derived.Test.YtmlaackdcnpjmaaDoorNew09
namespace Go.Proofs.YtmlaackdcnpjmaaDoor.Skp
open Go Go.RowKit Go.Proofs.YtmlaackdcnpjmaaDoor.Pin Go.Proofs.YtmlaackdcnpjmaaDoor.Flt
theorem holds_same {L M l : List Sc} (h1 : Holds L l) (h2 : Holds M l.reverse) (hL : Srt L) (hM : Srt M) : M = L := by
  refine srt_ext hM hL fun x => ?_
  rw [h1 x, h2 x]
  constructor
  · rintro ⟨m, hm, k⟩; exact ⟨m, List.mem_reverse.1 hm, k⟩
  · rintro ⟨m, hm, k⟩; exact ⟨m, List.mem_reverse.2 hm, k⟩
theorem rev_step {l : List Sc} {k j : Nat} (hj : j < l.length) (hk : k + j + 1 = l.length) : l.reverse.take (k + 1) = l.reverse.take k ++ [l[j]] := by
  have h : k < l.reverse.length := by simp; omega
  rw [List.take_succ_eq_append_getElem h]
  congr 2
  rw [List.getElem_reverse]
  congr 1
  omega
theorem num_eq {a : Nat} (h : Num a) : fEq a a = true := by rw [fEq_num h h]; simp
theorem srt_step {L : List Sc} (h : Srt L) {i : Nat} (h0 : 0 < i) (hi : i < L.length) :
    fGt (L[i - 1]'(by omega)).2 L[i].2 = false ∧ (fEq (L[i - 1]'(by omega)).2 L[i].2 = false ∨ fEq (L[i - 1]'(by omega)).2 L[i].2 = true ∧ Op.bytesLess (L[i - 1]'(by omega)).1.toList L[i].1.toList = true) := by
  have hl := h.lt (i := i - 1) (j := i) (by omega) hi
  have n1 := (h.at_ (i := i - 1) (by omega)).num
  have n2 := (h.at_ hi).num
  generalize L[i - 1]'(by omega) = p at hl n1
  generalize L[i] = q at hl n2
  unfold lessB at hl
  simp only [Bool.or_eq_true, Bool.and_eq_true] at hl
  rw [fGt_num n1 n2]
  rcases hl with hl | ⟨he, hb⟩
  · rw [fLt_num n1 n2] at hl
    have hl2 : keyI p.2 < keyI q.2 := by simpa using hl
    refine ⟨by simp; omega, .inl ?_⟩
    rw [fEq_num n1 n2]
    simp; omega
  · refine ⟨?_, .inr ⟨he, hb⟩⟩
    rw [fEq_num n1 n2] at he
    have he2 : keyI p.2 = keyI q.2 := by simpa using he
    simp; omega
theorem srt_next {L : List Sc} (h : Srt L) {j : Nat} (hj : j + 1 < L.length) :
    fGt (L[j]'(by omega)).2 L[j + 1].2 = false ∧ (fEq (L[j]'(by omega)).2 L[j + 1].2 = false ∨ fEq (L[j]'(by omega)).2 L[j + 1].2 = true ∧ Op.bytesLess (L[j]'(by omega)).1.toList L[j + 1].1.toList = true) :=
  srt_step h (i := j + 1) (by omega) hj
theorem rank_may {L l : List Sc} {m : Sc} {r : Int} {ok : Bool} (h : Holds L l) (hm : m ∈ l) (hr : RankL L m r ok) : ok = (fEq m.2 m.2 && decide (m.1.size ≤ 65536)) := by
  have key : (Num m.2 ∧ nrm m ∈ L) ↔ (fEq m.2 m.2 = true ∧ m.1.size ≤ 65536) := by
    constructor
    · rintro ⟨h1, h2⟩
      refine ⟨num_eq h1, ?_⟩
      obtain ⟨m', _, _, h3, h4⟩ := (h _).1 h2
      have e : (nrm m).1 = (nrm m').1 := congrArg Prod.fst h4
      have e : m.1 = m'.1 := e
      rw [e]; exact h3
    · rintro ⟨h1, h2⟩
      exact ⟨num_of h1, (h _).2 ⟨m, hm, num_of h1, h2, rfl⟩⟩
  rcases hr with ⟨h1, h2, rfl, _⟩ | ⟨h1, rfl, _⟩
  · obtain ⟨a, b⟩ := key.1 ⟨h1, h2⟩
    simp [a, b]
  · symm
    rw [← Bool.not_eq_true, Bool.and_eq_true, decide_eq_true_eq]
    exact fun hh => h1 (key.2 hh)
end Go.Proofs.YtmlaackdcnpjmaaDoor.Skp
