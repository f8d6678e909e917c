/- Chapter 24: plain laws: the order of texts, of floats; sorted lists; a merge. -/
import Derived.Test.YtpnmhldaaaemeaaRisS24
namespace Go.Proofs.Ytpnmhldaaaemeaa.Snp
open Go.RowKit Go.Proofs.Ytpnmhldaaaemeaa.Pin

theorem bl_irr : ∀ a : List UInt8, Op.bytesLess a a = false
  | [] => rfl
  | a :: x => by simp [Op.bytesLess, bl_irr x]
theorem bl_trans : ∀ {a b c : List UInt8}, Op.bytesLess a b = true → Op.bytesLess b c = true → Op.bytesLess a c = true
  | _, [], _, h, _ => by cases ‹List UInt8› <;> simp [Op.bytesLess] at h
  | _, _ :: _, [], _, h => by simp [Op.bytesLess] at h
  | [], _ :: _, _ :: _, _, _ => rfl
  | a :: x, b :: y, c :: z, h, k => by
    simp only [Op.bytesLess, Bool.or_eq_true, decide_eq_true_eq, Bool.and_eq_true, beq_iff_eq] at h k ⊢
    rcases h with h | ⟨rfl, h⟩
    · rcases k with k | ⟨rfl, k⟩
      · exact .inl (UInt8.lt_trans h k)
      · exact .inl h
    · rcases k with k | ⟨rfl, k⟩
      · exact .inl k
      · exact .inr ⟨rfl, bl_trans h k⟩
theorem bl_tri : ∀ (a b : List UInt8), Op.bytesLess a b = true ∨ a = b ∨ Op.bytesLess b a = true
  | [], [] => .inr (.inl rfl)
  | [], _ :: _ => .inl rfl
  | _ :: _, [] => .inr (.inr rfl)
  | a :: x, b :: y => by
    simp only [Op.bytesLess, Bool.or_eq_true, decide_eq_true_eq, Bool.and_eq_true, beq_iff_eq]
    by_cases h1 : a < b
    · exact .inl (.inl h1)
    by_cases h2 : b < a
    · exact .inr (.inr (.inl h2))
    obtain rfl : a = b := UInt8.le_antisymm (UInt8.not_lt.1 h2) (UInt8.not_lt.1 h1)
    rcases bl_tri x y with h | rfl | h
    · exact .inl (.inr ⟨rfl, h⟩)
    · exact .inr (.inl rfl)
    · exact .inr (.inr (.inr ⟨rfl, h⟩))
theorem text_ext {a b : ByteArray} (h : a.toList = b.toList) : a = b := by
  rw [ByteArray.toList_eq, ByteArray.toList_eq] at h
  cases a with | mk a => cases b with | mk b => exact congrArg _ (Array.toList_inj.1 h)
theorem lts_irr (a : ByteArray) : ¬ LtS a a := by unfold LtS; rw [bl_irr]; simp
theorem lts_trans {a b c : ByteArray} (h : LtS a b) (k : LtS b c) : LtS a c := bl_trans h k
theorem lts_tri (a b : ByteArray) : LtS a b ∨ a = b ∨ LtS b a := by
  rcases bl_tri a.toList b.toList with h | h | h
  · exact .inl h
  · exact .inr (.inl (text_ext h))
  · exact .inr (.inr h)
/-- at most -/
def LeS (a b : ByteArray) : Prop := LtS a b ∨ a = b
theorem les_trans {a b c : ByteArray} (h : LeS a b) (k : LeS b c) : LeS a c := by
  rcases h with h | rfl
  · rcases k with k | rfl
    · exact .inl (lts_trans h k)
    · exact .inl h
  · exact k
theorem les_anti {a b : ByteArray} (h : LeS a b) (k : LeS b a) : a = b := by
  rcases h with h | h
  · rcases k with k | k
    · exact absurd (lts_trans h k) (lts_irr a)
    · exact k.symm
  · exact h
theorem les_of_not {a b : ByteArray} (h : ¬ LeS a b) : LeS b a := by
  rcases lts_tri a b with k | k | k
  · exact absurd (.inl k) h
  · exact absurd (.inr k) h
  · exact .inl k
theorem les_bool (a b : ByteArray) : (Op.bytesLess a.toList b.toList || a.toList == b.toList) = pb (LeS a b) := by
  by_cases h : LeS a b
  · rw [pb_true h]
    rcases h with h | rfl
    · have h' : Op.bytesLess a.toList b.toList = true := h
      rw [h']
      rfl
    · simp
  · rw [pb_false h]
    have h1 : Op.bytesLess a.toList b.toList = false := Bool.eq_false_iff.2 fun e => h (.inl e)
    have h2 : (a.toList == b.toList) = false := Bool.eq_false_iff.2 fun e => h (.inr (text_ext (eq_of_beq e)))
    rw [h1, h2]
    rfl
/-- rising -/
def SrtP (l : List ByteArray) : Prop := l.Pairwise LeS
def NoTwin (l : List ByteArray) (k : Nat) : Prop := ∀ (j : Nat) (h : j < l.length), j < k → ∀ _ : 0 < j, l[j - 1]'(by omega) ≠ l[j]
theorem notwin_succ {l : List ByteArray} {k : Nat} (h : NoTwin l k) (hk : k < l.length) (h1 : ∀ _ : 0 < k, l[k - 1]'(by omega) ≠ l[k]) : NoTwin l (k + 1) := by
  intro j hj hlt
  by_cases e : j = k
  · subst e; exact h1
  · exact h j hj (by omega)
theorem nodup_iff {l : List ByteArray} (h : SrtP l) : NoTwin l l.length ↔ l.Nodup := by
  constructor
  · intro hn
    rw [List.Nodup, List.pairwise_iff_getElem]
    intro i j hi hj hij e
    have hp := List.pairwise_iff_getElem.1 h
    by_cases hq : i = j - 1
    · subst hq
      exact hn j hj hj (by omega) e
    · have h1 := hp i (j - 1) hi (by omega) (by omega)
      have h2 := hp (j - 1) j (by omega) hj (by omega)
      rw [← e] at h2
      exact hn j hj hj (by omega) ((les_anti h2 h1).trans e)
  · intro hn j hj _ h0
    rw [List.Nodup, List.pairwise_iff_getElem] at hn
    exact hn (j - 1) j (by omega) hj (by omega)
/-- a merge under way: what is out, what is left of both halves -/
structure Mrg (src out a b : List ByteArray) : Prop where
  perm : (out ++ (a ++ b)).Perm src
  so : SrtP out
  sa : SrtP a
  sb : SrtP b
  le : ∀ x ∈ out, ∀ y ∈ a ++ b, LeS x y
theorem Mrg.init {src a b : List ByteArray} (h : (a ++ b).Perm src) (sa : SrtP a) (sb : SrtP b) : Mrg src [] a b := ⟨h, List.Pairwise.nil, sa, sb, fun _ h => absurd h (by simp)⟩
theorem srt_tail {x : ByteArray} {l : List ByteArray} (h : SrtP (x :: l)) : SrtP l ∧ ∀ y ∈ l, LeS x y := ⟨(List.pairwise_cons.1 h).2, (List.pairwise_cons.1 h).1⟩
theorem srt_push {x : ByteArray} {l : List ByteArray} (h : SrtP l) (hx : ∀ y ∈ l, LeS y x) : SrtP (l ++ [x]) := by
  unfold SrtP
  rw [List.pairwise_append]
  exact ⟨h, by simp, fun a ha b hb => by obtain rfl := List.mem_singleton.1 hb; exact hx a ha⟩
theorem Mrg.left {src out a b : List ByteArray} {x : ByteArray} (h : Mrg src out (x :: a) b) (hx : ∀ y, b.head? = some y → LeS x y) : Mrg src (out ++ [x]) a b := by
  obtain ⟨h1, h2⟩ := srt_tail h.sa
  have hb : ∀ y ∈ b, LeS x y := by
    intro y hy
    cases b with
    | nil => cases hy
    | cons z b =>
      rcases List.mem_cons.1 hy with rfl | hy
      · exact hx _ rfl
      · exact les_trans (hx z rfl) ((srt_tail h.sb).2 y hy)
  refine ⟨?_, srt_push h.so (fun y hy => h.le y hy x (by simp)), h1, h.sb, ?_⟩
  · have := h.perm
    simpa using this
  · intro y hy z hz
    rcases List.mem_append.1 hy with hy | hy
    · exact h.le y hy z (by simp only [List.cons_append, List.mem_cons]; exact .inr hz)
    · obtain rfl := List.mem_singleton.1 hy
      rcases List.mem_append.1 hz with hz | hz
      · exact h2 z hz
      · exact hb z hz
theorem Mrg.right {src out a b : List ByteArray} {x : ByteArray} (h : Mrg src out a (x :: b)) (hx : ∀ y, a.head? = some y → LeS x y) : Mrg src (out ++ [x]) a b := by
  obtain ⟨h1, h2⟩ := srt_tail h.sb
  have ha : ∀ y ∈ a, LeS x y := by
    intro y hy
    cases a with
    | nil => cases hy
    | cons z a =>
      rcases List.mem_cons.1 hy with rfl | hy
      · exact hx _ rfl
      · exact les_trans (hx z rfl) ((srt_tail h.sa).2 y hy)
  refine ⟨?_, srt_push h.so (fun y hy => h.le y hy x (by simp)), h.sa, h1, ?_⟩
  · refine List.Perm.trans ?_ h.perm
    rw [List.append_assoc]
    exact List.Perm.append_left out (by simpa using (List.perm_middle (a := x) (l₁ := a) (l₂ := b)).symm)
  · intro y hy z hz
    rcases List.mem_append.1 hy with hy | hy
    · exact h.le y hy z (by
        rcases List.mem_append.1 hz with hz | hz
        · exact List.mem_append_left _ hz
        · exact List.mem_append_right _ (by simp [hz]))
    · obtain rfl := List.mem_singleton.1 hy
      rcases List.mem_append.1 hz with hz | hz
      · exact ha z hz
      · exact h2 z hz
theorem Mrg.done {src out : List ByteArray} (h : Mrg src out [] []) : out.Perm src ∧ SrtP out := ⟨by have := h.perm; simpa using this, h.so⟩
-- floats
theorem datum_self : ∀ d : Ieee.Datum, d.order d = some .eq ∨ ∀ e, d.order e = none ∧ e.order d = none
  | .nan s m => .inr fun e => by cases e <;> exact ⟨rfl, rfl⟩
  | .infinity s => .inl (by cases s <;> rfl)
  | .number s m i => .inl (by
      simp only [Ieee.Datum.order, Option.some.injEq]
      exact Std.ReflCmp.compare_self)
theorem datum_none : ∀ d e : Ieee.Datum, d.order d = some .eq → e.order e = some .eq → d.order e ≠ none
  | .nan .., _, h, _ => by cases h
  | _, .nan .., _, h => by cases h
  | .infinity _, .infinity _, _, _ => by simp [Ieee.Datum.order]
  | .infinity _, .number .., _, _ => by simp [Ieee.Datum.order]
  | .number .., .infinity _, _, _ => by simp [Ieee.Datum.order]
  | .number .., .number .., _, _ => by simp [Ieee.Datum.order]
def FGt (x y : Nat) : Prop := FloatKind.f64.format.order x y = some .gt
theorem flt_tri {x y : Nat} (hx : FEq x x) (hy : FEq y y) : FLt x y ∨ FEq x y ∨ FGt x y := by
  have h := datum_none _ _ hx hy
  unfold FLt FEq FGt Ieee.Format.order
  cases hq : ((FloatKind.f64.format.read x).order (FloatKind.f64.format.read y)) with
  | none => exact absurd hq h
  | some o => cases o <;> simp
theorem fsame_excl {x y : Nat} (h : FEq x y) : ¬ FLt x y ∧ ¬ FGt x y := by
  unfold FLt FGt
  unfold FEq at h
  rw [h]
  simp
theorem flt_excl {x y : Nat} (h : FLt x y) : ¬ FEq x y ∧ ¬ FGt x y := by
  unfold FEq FGt
  unfold FLt at h
  rw [h]
  simp
theorem signed_zero {s : Bool} {m u : Nat} (h : Ieee.signed s m u = 0) : m = 0 := by
  unfold Ieee.signed at h
  have h2 : m <<< u = 0 := by
    cases s
    · simpa using h
    · simpa using h
  rw [Nat.shiftLeft_eq] at h2
  rcases Nat.mul_eq_zero.1 h2 with h2 | h2
  · exact h2
  · exact absurd h2 (Nat.pos_iff_ne_zero.1 (Nat.two_pow_pos u))
theorem number_zero {s : Bool} {m : Nat} {i j : Int} (h : (Ieee.Datum.number s m i).order (.number false 0 j) = some .eq) : m = 0 := by
  simp only [Ieee.Datum.order, Option.some.injEq] at h
  have h2 := Std.LawfulEqOrd.eq_of_compare h
  refine signed_zero (s := s) (u := (i - min i j).toNat) (h2.trans ?_)
  simp [Ieee.signed]
/-- equal to zero: its lower bits are nought -/
theorem feq_zero {x : Nat} (h : FEq x 0) : x % 9223372036854775808 = 0 := by
  have e0 : FloatKind.f64.format.read 0 = .number false 0 (-1074) := by rfl
  have hs : FloatKind.f64.format.signWeight = 9223372036854775808 := by rfl
  have hb : FloatKind.f64.format.binade = 4503599627370496 := by rfl
  have h' : (FloatKind.f64.format.read x).order (.number false 0 (-1074)) = some .eq := by rw [← e0]; exact h
  unfold Ieee.Format.read at h'
  simp only [hs, hb] at h'
  split at h'
  · exact number_zero h'
  · split at h'
    · have := number_zero h'
      omega
    · split at h'
      · exfalso
        cases hq : (x / 9223372036854775808 % 2 == 1) <;> rw [hq] at h' <;> simp [Ieee.Datum.order] at h'
      · simp [Ieee.Datum.order] at h'
end Go.Proofs.Ytpnmhldaaaemeaa.Snp
