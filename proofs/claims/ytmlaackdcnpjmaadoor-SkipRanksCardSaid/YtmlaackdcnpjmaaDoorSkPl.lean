/- Chapter 09, plainly: members in their order. -/
import Derived.Test.YtmlaackdcnpjmaaDoorFlt
import Derived.Laws.Strings
namespace Go.Proofs.YtmlaackdcnpjmaaDoor.Skp
open Go Go.Proofs.YtmlaackdcnpjmaaDoor.Flt
abbrev Sc := ByteArray × Nat
/-! ### Texts -/

theorem bl_irr : ∀ a : List UInt8, Op.bytesLess a a = false
  | [] => rfl
  | a :: x => by simp [Op.bytesLess, bl_irr x]
theorem bl_trans : ∀ {a b c : List UInt8}, Op.bytesLess a b = true → Op.bytesLess b c = true → Op.bytesLess a c = true
  | _, [], _, h, _ => by cases ‹List UInt8› <;> simp [Op.bytesLess] at h
  | _, _ :: _, [], _, h => by simp [Op.bytesLess] at h
  | [], _ :: _, _ :: _, _, _ => rfl
  | a :: x, b :: y, c :: z, h, k => by
    simp only [Op.bytesLess, Bool.or_eq_true, decide_eq_true_eq, Bool.and_eq_true, beq_iff_eq] at h k ⊢
    rcases h with h | ⟨rfl, h⟩
    · rcases k with k | ⟨rfl, k⟩
      · exact .inl (UInt8.lt_trans h k)
      · exact .inl h
    · rcases k with k | ⟨rfl, k⟩
      · exact .inl k
      · exact .inr ⟨rfl, bl_trans h k⟩
theorem bl_tri : ∀ (a b : List UInt8), Op.bytesLess a b = true ∨ a = b ∨ Op.bytesLess b a = true
  | [], [] => .inr (.inl rfl)
  | [], _ :: _ => .inl rfl
  | _ :: _, [] => .inr (.inr rfl)
  | a :: x, b :: y => by
    simp only [Op.bytesLess, Bool.or_eq_true, decide_eq_true_eq, Bool.and_eq_true, beq_iff_eq]
    by_cases h1 : a < b
    · exact .inl (.inl h1)
    by_cases h2 : b < a
    · exact .inr (.inr (.inl h2))
    obtain rfl : a = b := UInt8.le_antisymm (UInt8.not_lt.1 h2) (UInt8.not_lt.1 h1)
    rcases bl_tri x y with h | rfl | h
    · exact .inl (.inr ⟨rfl, h⟩)
    · exact .inr (.inl rfl)
    · exact .inr (.inr (.inr ⟨rfl, h⟩))
/-- text a stands ahead of text b -/
def LtS (a b : ByteArray) : Prop := Op.bytesLess a.toList b.toList = true
theorem text_ext {a b : ByteArray} (h : a.toList = b.toList) : a = b := by
  rw [ByteArray.toList_eq, ByteArray.toList_eq] at h
  cases a with | mk a => cases b with | mk b => exact congrArg _ (Array.toList_inj.1 h)
theorem lts_irr (a : ByteArray) : ¬ LtS a a := by unfold LtS; rw [bl_irr]; simp
theorem lts_trans {a b c : ByteArray} (h : LtS a b) (k : LtS b c) : LtS a c := bl_trans h k
theorem lts_tri (a b : ByteArray) : LtS a b ∨ a = b ∨ LtS b a := by
  rcases bl_tri a.toList b.toList with h | h | h
  · exact .inl h
  · exact .inr (.inl (text_ext h))
  · exact .inr (.inr h)
/-! ### Members -/
def fLt (a b : Nat) : Bool := FloatKind.f64.format.order a b == some .lt
def fEq (a b : Nat) : Bool := FloatKind.f64.format.order a b == some .eq
/-- is a ahead of b? -/
def lessB (a b : Sc) : Bool := fLt a.2 b.2 || (fEq a.2 b.2 && Op.bytesLess a.1.toList b.1.toList)
/-- a member as it is kept -/
structure Cn (c : Sc) : Prop where
  num : Num c.2
  lt : c.2 < 2 ^ 64
  pos : rung c.2 = 0 → sgn c.2 = false
def nrm (m : Sc) : Sc := (m.1, if rung m.2 = 0 then 0 else m.2)
theorem nrm_cn {m : Sc} (h : Num m.2) (hl : m.2 < 2 ^ 64) : Cn (nrm m) := by
  unfold nrm
  by_cases h0 : rung m.2 = 0
  · rw [if_pos h0]
    exact ⟨show Num 0 by unfold Num; decide, show 0 < 2 ^ 64 by decide, fun _ => show sgn 0 = false by decide⟩
  · rw [if_neg h0]
    exact ⟨h, hl, fun h => absurd h h0⟩
theorem nrm_key (m : Sc) : keyI (nrm m).2 = keyI m.2 := by
  unfold nrm
  by_cases h0 : rung m.2 = 0
  · rw [if_pos h0]
    have e : keyI m.2 = 0 := by unfold keyI; rw [h0, rungK_zero]; simp
    rw [e]
    show keyI 0 = 0
    decide
  · rw [if_neg h0]
theorem fLt_num {a b : Nat} (ha : Num a) (hb : Num b) : fLt a b = decide (keyI a < keyI b) := by
  unfold fLt
  rw [order_num ha hb]
  rcases Int.lt_trichotomy (keyI a) (keyI b) with h | h | h
  · rw [Int.compare_eq_lt.2 h]; simp [h]
  · rw [h]; simp
  · rw [Int.compare_eq_gt.2 h]; simp; omega
theorem fEq_num {a b : Nat} (ha : Num a) (hb : Num b) : fEq a b = decide (keyI a = keyI b) := by
  unfold fEq
  rw [order_num ha hb]
  rcases Int.lt_trichotomy (keyI a) (keyI b) with h | h | h
  · rw [Int.compare_eq_lt.2 h]; simp; omega
  · rw [h]; simp
  · rw [Int.compare_eq_gt.2 h]; simp; omega
theorem f_none {a b : Nat} (h : ¬ (Num a ∧ Num b)) : fLt a b = false ∧ fEq a b = false := by
  unfold fLt fEq
  rw [order_none h]
  exact ⟨rfl, rfl⟩
theorem less_num {a b : Sc} (ha : Num a.2) (hb : Num b.2) : lessB a b = true ↔ keyI a.2 < keyI b.2 ∨ keyI a.2 = keyI b.2 ∧ LtS a.1 b.1 := by
  unfold lessB LtS
  rw [fLt_num ha hb, fEq_num ha hb]
  simp
theorem less_nrm {a m : Sc} (ha : Num a.2) (hm : Num m.2) (hl : m.2 < 2 ^ 64) : lessB a (nrm m) = lessB a m := by
  have h1 := less_num ha (nrm_cn hm hl).num
  have h2 := less_num ha hm
  rw [nrm_key] at h1
  have h3 : (nrm m).1 = m.1 := rfl
  rw [h3, ← h2] at h1
  cases ha' : lessB a (nrm m) <;> cases hb' : lessB a m <;> simp_all
theorem less_nan {a m : Sc} (hm : ¬ Num m.2) : lessB a m = false := by
  unfold lessB
  have := f_none (a := a.2) (b := m.2) (fun h => hm h.2)
  rw [this.1, this.2]
  rfl
theorem less_irr {a : Sc} (h : Num a.2) : lessB a a = false := by
  cases hq : lessB a a with
  | false => rfl
  | true =>
    rcases (less_num h h).1 hq with h' | h'
    · omega
    · exact absurd h'.2 (lts_irr _)
theorem less_trans {a b c : Sc} (ha : Num a.2) (hb : Num b.2) (hc : Num c.2) (h : lessB a b = true) (k : lessB b c = true) : lessB a c = true := by
  refine (less_num ha hc).2 ?_
  rcases (less_num ha hb).1 h with h | h
  · rcases (less_num hb hc).1 k with k | k
    · exact .inl (by omega)
    · exact .inl (by omega)
  · rcases (less_num hb hc).1 k with k | k
    · exact .inl (by omega)
    · exact .inr ⟨by omega, lts_trans h.2 k.2⟩
theorem less_tri {a b : Sc} (ha : Cn a) (hb : Cn b) : lessB a b = true ∨ a = b ∨ lessB b a = true := by
  rcases Int.lt_trichotomy (keyI a.2) (keyI b.2) with h | h | h
  · exact .inl ((less_num ha.num hb.num).2 (.inl h))
  · rcases lts_tri a.1 b.1 with k | k | k
    · exact .inl ((less_num ha.num hb.num).2 (.inr ⟨h, k⟩))
    · exact .inr (.inl (Prod.ext k (same_of ha.lt hb.lt h ha.pos hb.pos)))
    · exact .inr (.inr ((less_num hb.num ha.num).2 (.inr ⟨h.symm, k⟩)))
  · exact .inr (.inr ((less_num hb.num ha.num).2 (.inl h)))
/-! ### Lists in order -/
structure Srt (L : List Sc) : Prop where
  ord : L.Pairwise (fun a b => lessB a b = true)
  cn : ∀ x ∈ L, Cn x
theorem srt_nil : Srt [] := ⟨.nil, fun _ h => by cases h⟩
theorem Srt.lt {L : List Sc} (h : Srt L) {i j : Nat} (hij : i < j) (hj : j < L.length) : lessB (L[i]'(by omega)) L[j] = true := (List.pairwise_iff_getElem.1 h.ord) i j (by omega) hj hij
theorem Srt.at_ {L : List Sc} (h : Srt L) {i : Nat} (hi : i < L.length) : Cn L[i] := h.cn _ (List.getElem_mem hi)
/-- so many stand ahead of what q tells -/
def Cut (L : List Sc) (q : Sc → Bool) (P : Nat) : Prop := P ≤ L.length ∧ ∀ i (h : i < L.length), q L[i] = true ↔ i < P
theorem cut_of {q : Sc → Bool} : ∀ {L : List Sc}, L.Pairwise (fun a b => q b = true → q a = true) → ∃ P, Cut L q P
  | [], _ => ⟨0, by simp, fun i h => by simp at h⟩
  | x :: L, h => by
    obtain ⟨h1, h2⟩ := List.pairwise_cons.1 h
    obtain ⟨P, hP, hq⟩ := cut_of h2
    cases hx : q x with
    | true =>
      refine ⟨P + 1, by simp; omega, fun i hi => ?_⟩
      cases i with
      | zero => simp [hx]
      | succ i => simpa using hq i (by simpa using hi)
    | false =>
      refine ⟨0, by simp, fun i hi => ?_⟩
      cases i with
      | zero => simp [hx]
      | succ i =>
        have : q (L[i]'(by simpa using hi)) = false := by
          cases hy : q (L[i]'(by simpa using hi)) with
          | false => rfl
          | true => have := h1 _ (List.getElem_mem (by simpa using hi)) hy; rw [hx] at this; cases this
        simp [this]
theorem cut_less {L : List Sc} (h : Srt L) (m : Sc) : ∃ P, Cut L (fun x => lessB x m) P := by
  by_cases hm : Num m.2
  · refine cut_of (List.Pairwise.imp_of_mem ?_ h.ord)
    intro a b ha hb hab hq
    exact less_trans (h.cn a ha).num (h.cn b hb).num hm hab hq
  · refine ⟨0, by simp, fun i hi => ?_⟩
    show lessB L[i] m = true ↔ i < 0
    rw [less_nan hm]
    simp
/-- where m would stand, m stands, if it is there at all -/
def Hit (L : List Sc) (P : Nat) (m : Sc) : Prop := ∃ h : P < L.length, fEq L[P].2 m.2 = true ∧ L[P].1 = m.1
theorem hit_iff {L : List Sc} (h : Srt L) {m : Sc} {P : Nat} (hP : Cut L (fun x => lessB x m) P) (hl : m.2 < 2 ^ 64) : Hit L P m ↔ Num m.2 ∧ nrm m ∈ L := by
  constructor
  · rintro ⟨hlt, h1, h2⟩
    have hc := h.at_ hlt
    have hm : Num m.2 := by
      refine Classical.byContradiction fun hm => ?_
      rw [(f_none (fun k => hm k.2)).2] at h1
      cases h1
    rw [fEq_num hc.num hm] at h1
    have hk : keyI L[P].2 = keyI m.2 := by simpa using h1
    refine ⟨hm, ?_⟩
    have : nrm m = L[P] := Prod.ext h2.symm (same_of (nrm_cn hm hl).lt hc.lt (by rw [nrm_key, hk]) (nrm_cn hm hl).pos hc.pos)
    rw [this]
    exact List.getElem_mem hlt
  · rintro ⟨hm, hmem⟩
    obtain ⟨i, hi, he⟩ := List.getElem_of_mem hmem
    have hc := h.at_ hi
    have hnl : lessB L[i] m = false := by rw [← less_nrm hc.num hm hl, he, less_irr (nrm_cn hm hl).num]
    have hge : ¬ i < P := fun k => by have h0 : lessB L[i] m = true := (hP.2 i hi).2 k; rw [hnl] at h0; cases h0
    have hPi : P = i := by
      rcases Nat.lt_or_ge P i with k | k
      · have h1 := h.lt k hi
        rw [he, less_nrm (h.at_ (by omega)).num hm hl] at h1
        have := (hP.2 P (by omega)).1 h1
        omega
      · omega
    subst hPi
    refine ⟨hi, ?_, ?_⟩
    · rw [fEq_num hc.num hm, he, nrm_key]; simp
    · rw [he]; rfl
theorem srt_ins {L : List Sc} (h : Srt L) {c : Sc} (hc : Cn c) {P : Nat} (hP : Cut L (fun x => lessB x c) P) (hn : c ∉ L) : Srt (L.take P ++ c :: L.drop P) := by
  have hcat : L.take P ++ L.drop P = L := List.take_append_drop P L
  refine ⟨List.pairwise_append.2 ⟨h.ord.sublist (List.take_sublist _ _), List.pairwise_cons.2 ⟨fun y hy => ?_, h.ord.sublist (List.drop_sublist _ _)⟩, fun x hx y hy => ?_⟩, fun x hx => ?_⟩
  · obtain ⟨j, hj, rfl⟩ := List.getElem_of_mem hy
    rw [List.getElem_drop]
    have hj' : P + j < L.length := by simpa [Nat.add_comm, Nat.lt_sub_iff_add_lt] using hj
    rcases less_tri hc (h.at_ hj') with k | k | k
    · exact k
    · exact absurd (k ▸ List.getElem_mem hj') hn
    · have := (hP.2 _ hj').1 k; omega
  · obtain ⟨i, hi, rfl⟩ := List.getElem_of_mem hx
    have hi' : i < P ∧ i < L.length := by simp at hi; omega
    rw [List.getElem_take]
    have hic : lessB L[i] c = true := (hP.2 i hi'.2).2 hi'.1
    rcases List.mem_cons.1 hy with rfl | hy
    · exact hic
    · obtain ⟨j, hj, rfl⟩ := List.getElem_of_mem hy
      rw [List.getElem_drop]
      exact h.lt (by omega) _
  · simp only [List.mem_append, List.mem_cons] at hx
    rcases hx with hx | rfl | hx
    · exact h.cn x (List.mem_of_mem_take hx)
    · exact hc
    · exact h.cn x (List.mem_of_mem_drop hx)
theorem mem_ins {L : List Sc} {c x : Sc} {P : Nat} : x ∈ L.take P ++ c :: L.drop P ↔ x ∈ L ∨ x = c := by
  have hcat : x ∈ L ↔ x ∈ L.take P ∨ x ∈ L.drop P := by rw [← List.mem_append, List.take_append_drop]
  simp only [List.mem_append, List.mem_cons, hcat]
  constructor
  · rintro (h | h | h)
    · exact .inl (.inl h)
    · exact .inr h
    · exact .inl (.inr h)
  · rintro ((h | h) | h)
    · exact .inl h
    · exact .inr (.inr h)
    · exact .inr (.inl h)
theorem srt_erase {L : List Sc} (h : Srt L) (P : Nat) : Srt (L.take P ++ L.drop (P + 1)) := by
  have hs : (L.take P ++ L.drop (P + 1)).Sublist L := by
    have := List.Sublist.append (List.Sublist.refl (L.take P)) (List.drop_sublist 1 (L.drop P))
    rw [List.drop_drop, List.take_append_drop] at this
    exact this
  exact ⟨h.ord.sublist hs, fun x hx => h.cn x (hs.subset hx)⟩
theorem srt_cons {x : Sc} {L : List Sc} (h : Srt (x :: L)) : Srt L ∧ ∀ y ∈ L, lessB x y = true := ⟨⟨(List.pairwise_cons.1 h.ord).2, fun y hy => h.cn y (by simp [hy])⟩, (List.pairwise_cons.1 h.ord).1⟩
theorem srt_ext : ∀ {L M : List Sc}, Srt L → Srt M → (∀ x, x ∈ L ↔ x ∈ M) → L = M
  | [], [], _, _, _ => rfl
  | [], y :: M, _, _, h => by have := (h y).2 (by simp); cases this
  | x :: L, [], _, _, h => by have := (h x).1 (by simp); cases this
  | x :: L, y :: M, hL, hM, h => by
    obtain ⟨hL', hx⟩ := srt_cons hL
    obtain ⟨hM', hy⟩ := srt_cons hM
    have cx := hL.cn x (by simp)
    have cy := hM.cn y (by simp)
    have hxy : x = y := by
      rcases List.mem_cons.1 ((h x).1 (by simp)) with e | hxM
      · exact e
      rcases List.mem_cons.1 ((h y).2 (by simp)) with e | hyL
      · exact e.symm
      have := less_trans cx.num cy.num cx.num (hx y hyL) (hy x hxM)
      rw [less_irr cx.num] at this
      cases this
    subst hxy
    congr 1
    refine srt_ext hL' hM' fun z => ⟨fun hz => ?_, fun hz => ?_⟩
    · rcases List.mem_cons.1 ((h z).1 (by simp [hz])) with e | k
      · subst e
        have := hx z hz
        rw [less_irr cx.num] at this
        cases this
      · exact k
    · rcases List.mem_cons.1 ((h z).2 (by simp [hz])) with e | k
      · subst e
        have := hy z hz
        rw [less_irr cx.num] at this
        cases this
      · exact k
end Go.Proofs.YtmlaackdcnpjmaaDoor.Skp
