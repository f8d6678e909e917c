/- Chapter 09, plainly: the heights of a list of skips: what its links say, position by position; a node put in, a node taken out. -/
import Derived.Test.YtmlaackdcnpjmaaDoorSkPl
namespace Go.Proofs.YtmlaackdcnpjmaaDoor.Skp
open Go
/-- position p's link on height h: to the next that reaches as high, over so many; or to nothing -/
def Lnk (c : Nat → Nat → Option Value) (n : Nat) (bl ht : Nat → Nat) (h p : Nat) : Prop :=
  (∃ q, p < q ∧ q ≤ n ∧ h < ht q ∧ (∀ r, p < r → r < q → ht r ≤ h) ∧ c (bl p) (3 + h * 2) = some (.pointer (some ⟨bl q, 0, none⟩)) ∧ c (bl p) (3 + h * 2 + 1) = some (.int .i64 ((q - p : Nat) : Int))) ∨
  ((∀ r, p < r → r ≤ n → ht r ≤ h) ∧ c (bl p) (3 + h * 2) = some (.pointer none) ∧ ∃ j : Int, c (bl p) (3 + h * 2 + 1) = some (.int .i64 j))
def Lvl (c : Nat → Nat → Option Value) (n : Nat) (bl ht : Nat → Nat) (h : Nat) : Prop := ∀ p, p ≤ n → h < ht p → Lnk c n bl ht h p
/-- the last one up to P that reaches higher than h -/
def Lst (ht : Nat → Nat) (P h a : Nat) : Prop := a ≤ P ∧ h < ht a ∧ ∀ r, a < r → r ≤ P → ht r ≤ h
theorem lst_ex (ht : Nat → Nat) (P h : Nat) (h0 : h < ht 0) : ∃ a, Lst ht P h a := by
  induction P with
  | zero => exact ⟨0, Nat.le_refl _, h0, fun r h1 h2 => by omega⟩
  | succ P ih =>
    by_cases hp : h < ht (P + 1)
    · exact ⟨P + 1, Nat.le_refl _, hp, fun r h1 h2 => by omega⟩
    · obtain ⟨a, h1, h2, h3⟩ := ih
      refine ⟨a, by omega, h2, fun r k1 k2 => ?_⟩
      by_cases hr : r = P + 1
      · subst hr; omega
      · exact h3 r k1 (by omega)
theorem lst_one {ht : Nat → Nat} {P h a b : Nat} (h1 : Lst ht P h a) (h2 : Lst ht P h b) : a = b := by
  rcases Nat.lt_trichotomy a b with k | k | k
  · have := h1.2.2 b k h2.1; have := h2.2.1; omega
  · exact k
  · have := h2.2.2 a k h1.1; have := h1.2.1; omega
theorem lst_low {ht : Nat → Nat} {P a : Nat} (hp : ∀ p, p ≤ P → 0 < ht p) (h : Lst ht P 0 a) : a = P := by
  rcases Nat.lt_or_ge a P with k | k
  · have := h.2.2 P k (Nat.le_refl _); have := hp P (Nat.le_refl _); omega
  · have := h.1; omega
theorem Lvl.same {c c' : Nat → Nat → Option Value} {n : Nat} {bl ht : Nat → Nat} {h : Nat} (hl : Lvl c n bl ht h) (hk : ∀ p, p ≤ n → ∀ o, (o = 3 + h * 2 ∨ o = 3 + h * 2 + 1) → c' (bl p) o = c (bl p) o) : Lvl c' n bl ht h := by
  intro p hp hh
  have k1 := hk p hp _ (.inl rfl)
  have k2 := hk p hp _ (.inr rfl)
  rcases hl p hp hh with ⟨q, a1, a2, a3, a4, a5, a6⟩ | ⟨a1, a2, j, a3⟩
  · exact .inl ⟨q, a1, a2, a3, a4, k1.trans a5, k2.trans a6⟩
  · exact .inr ⟨a1, k1.trans a2, j, k2.trans a3⟩
/-! ### A node put in behind position P -/
def ins {α : Type} (P : Nat) (f : Nat → α) (x : α) (p : Nat) : α := if p ≤ P then f p else if p = P + 1 then x else f (p - 1)
theorem ins_le {α : Type} {P : Nat} {f : Nat → α} {x : α} {p : Nat} (h : p ≤ P) : ins P f x p = f p := by unfold ins; rw [if_pos h]
theorem ins_at {α : Type} {P : Nat} {f : Nat → α} {x : α} : ins P f x (P + 1) = x := by unfold ins; rw [if_neg (by omega), if_pos rfl]
theorem ins_gt {α : Type} {P : Nat} {f : Nat → α} {x : α} {p : Nat} (h : P < p) : ins P f x (p + 1) = f p := by unfold ins; rw [if_neg (by omega), if_neg (by omega)]; rfl
theorem ins_cases {P n p : Nat} (hp : p ≤ n + 1) : p ≤ P ∨ p = P + 1 ∨ ∃ q, p = q + 1 ∧ P < q ∧ q ≤ n := by
  rcases Nat.lt_or_ge P p with h | h
  · by_cases h1 : p = P + 1
    · exact .inr (.inl h1)
    · exact .inr (.inr ⟨p - 1, by omega, by omega, by omega⟩)
  · exact .inl h
section
variable {c c' : Nat → Nat → Option Value} {n : Nat} {bl ht : Nat → Nat} {h P a bx H : Nat}
theorem lvl_put_high (hl : Lvl c n bl ht h) (ha : Lst ht P h a) (hP : P ≤ n) (hH : h < H) {t : Value} {s s' : Int} (ct : c (bl a) (3 + h * 2) = some t) (cs : c (bl a) (3 + h * 2 + 1) = some (.int .i64 s))
    (e1 : c' bx (3 + h * 2) = some t) (e2 : c' bx (3 + h * 2 + 1) = some (.int .i64 s')) (hs : ∀ q : Nat, P < q → q ≤ n → s = ((q - a : Nat) : Int) → s' = ((q - P : Nat) : Int))
    (e3 : c' (bl a) (3 + h * 2) = some (.pointer (some ⟨bx, 0, none⟩))) (e4 : c' (bl a) (3 + h * 2 + 1) = some (.int .i64 ((P + 1 - a : Nat) : Int)))
    (hk : ∀ p, p ≤ n → p ≠ a → ∀ o, (o = 3 + h * 2 ∨ o = 3 + h * 2 + 1) → c' (bl p) o = c (bl p) o) : Lvl c' (n + 1) (ins P bl bx) (ins P ht H) h := by
  obtain ⟨ha1, ha2, ha3⟩ := ha
  intro p hp hh
  rcases ins_cases (P := P) hp with hpP | rfl | ⟨p, rfl, hPp, hpn⟩
  · rw [ins_le hpP] at hh
    unfold Lnk
    rw [ins_le hpP]
    by_cases hpa : p = a
    · subst hpa
      refine .inl ⟨P + 1, by omega, by omega, by rw [ins_at]; exact hH, fun r k1 k2 => by rw [ins_le (by omega)]; exact ha3 r k1 (by omega), by rw [ins_at]; exact e3, e4⟩
    · have hplt : p < a := by
        rcases Nat.lt_or_ge p a with k | k
        · exact k
        · have := ha3 p (by omega) hpP; omega
      have k1 := hk p (by omega) hpa _ (.inl rfl)
      have k2 := hk p (by omega) hpa _ (.inr rfl)
      rcases hl p (by omega) hh with ⟨q, a1, a2, a3, a4, a5, a6⟩ | ⟨a1, _, _, _⟩
      · have hqa : q ≤ a := by
          rcases Nat.lt_or_ge a q with k | k
          · have := a4 a hplt k; omega
          · exact k
        exact .inl ⟨q, a1, by omega, by rw [ins_le (by omega)]; exact a3, fun r r1 r2 => by rw [ins_le (by omega)]; exact a4 r r1 r2, by rw [ins_le (by omega)]; exact k1.trans a5, k2.trans a6⟩
      · have := a1 a hplt (by omega); omega
  · unfold Lnk
    rw [ins_at]
    rcases hl a (by omega) ha2 with ⟨q, a1, a2, a3, a4, a5, a6⟩ | ⟨a1, a2, j, a3⟩
    · have hq : P < q := by
        rcases Nat.lt_or_ge P q with k | k
        · exact k
        · have := ha3 q a1 k; omega
      rw [ct] at a5
      rw [cs] at a6
      refine .inl ⟨q + 1, by omega, by omega, by rw [ins_gt hq]; exact a3, fun r r1 r2 => ?_, ?_, ?_⟩
      · obtain ⟨r, rfl⟩ : ∃ r', r = r' + 1 := ⟨r - 1, by omega⟩
        rw [ins_gt (by omega)]
        exact a4 r (by omega) (by omega)
      · rw [ins_gt hq, e1]
        exact a5
      · rw [e2, hs q hq a2 (by injection a6 with a6; injection a6)]
        rw [show q + 1 - (P + 1) = q - P by omega]
    · rw [ct] at a2
      refine .inr ⟨fun r r1 r2 => ?_, by rw [e1]; exact a2, s', e2⟩
      obtain ⟨r, rfl⟩ : ∃ r', r = r' + 1 := ⟨r - 1, by omega⟩
      rw [ins_gt (by omega)]
      exact a1 r (by omega) (by omega)
  · rw [ins_gt hPp] at hh
    unfold Lnk
    rw [ins_gt hPp]
    have hpa : p ≠ a := by omega
    have k1 := hk p hpn hpa _ (.inl rfl)
    have k2 := hk p hpn hpa _ (.inr rfl)
    rcases hl p hpn hh with ⟨q, a1, a2, a3, a4, a5, a6⟩ | ⟨a1, a2, j, a3⟩
    · refine .inl ⟨q + 1, by omega, by omega, by rw [ins_gt (by omega)]; exact a3, fun r r1 r2 => ?_, ?_, ?_⟩
      · obtain ⟨r, rfl⟩ : ∃ r', r = r' + 1 := ⟨r - 1, by omega⟩
        rw [ins_gt (by omega)]
        exact a4 r (by omega) (by omega)
      · rw [ins_gt (by omega)]
        exact k1.trans a5
      · rw [show q + 1 - (p + 1) = q - p by omega]
        exact k2.trans a6
    · refine .inr ⟨fun r r1 r2 => ?_, k1.trans a2, j, k2.trans a3⟩
      obtain ⟨r, rfl⟩ : ∃ r', r = r' + 1 := ⟨r - 1, by omega⟩
      rw [ins_gt (by omega)]
      exact a1 r (by omega) (by omega)
theorem lvl_put_low (hl : Lvl c n bl ht h) (ha : Lst ht P h a) (hP : P ≤ n) (hH : H ≤ h) {t : Value} {s s' : Int} (ct : c (bl a) (3 + h * 2) = some t) (cs : c (bl a) (3 + h * 2 + 1) = some (.int .i64 s))
    (e3 : c' (bl a) (3 + h * 2) = some t) (e4 : c' (bl a) (3 + h * 2 + 1) = some (.int .i64 s')) (hs : ∀ q : Nat, P < q → q ≤ n → s = ((q - a : Nat) : Int) → s' = ((q + 1 - a : Nat) : Int))
    (hk : ∀ p, p ≤ n → p ≠ a → ∀ o, (o = 3 + h * 2 ∨ o = 3 + h * 2 + 1) → c' (bl p) o = c (bl p) o) : Lvl c' (n + 1) (ins P bl bx) (ins P ht H) h := by
  obtain ⟨ha1, ha2, ha3⟩ := ha
  intro p hp hh
  rcases ins_cases (P := P) hp with hpP | rfl | ⟨p, rfl, hPp, hpn⟩
  · rw [ins_le hpP] at hh
    unfold Lnk
    rw [ins_le hpP]
    by_cases hpa : p = a
    · subst hpa
      rcases hl p (by omega) ha2 with ⟨q, a1, a2, a3, a4, a5, a6⟩ | ⟨a1, a2, j, a3⟩
      · have hq : P < q := by
          rcases Nat.lt_or_ge P q with k | k
          · exact k
          · have := ha3 q a1 k; omega
        rw [ct] at a5
        rw [cs] at a6
        refine .inl ⟨q + 1, by omega, by omega, by rw [ins_gt hq]; exact a3, fun r r1 r2 => ?_, ?_, ?_⟩
        · rcases ins_cases (P := P) (n := n) (p := r) (by omega) with k | k | ⟨r', k1, k2, k3⟩
          · rw [ins_le k]; exact ha3 r r1 k
          · rw [k, ins_at]; exact hH
          · rw [k1, ins_gt k2]; exact a4 r' (by omega) (by omega)
        · rw [ins_gt hq, e3]; exact a5
        · rw [e4, hs q hq a2 (by injection a6 with a6; injection a6)]
      · rw [ct] at a2
        refine .inr ⟨fun r r1 r2 => ?_, by rw [e3]; exact a2, s', e4⟩
        rcases ins_cases (P := P) (n := n) (p := r) (by omega) with k | k | ⟨r', k1, k2, k3⟩
        · rw [ins_le k]; exact ha3 r r1 k
        · rw [k, ins_at]; exact hH
        · rw [k1, ins_gt k2]; exact a1 r' (by omega) (by omega)
    · have hplt : p < a := by
        rcases Nat.lt_or_ge p a with k | k
        · exact k
        · have := ha3 p (by omega) hpP; omega
      have k1 := hk p (by omega) hpa _ (.inl rfl)
      have k2 := hk p (by omega) hpa _ (.inr rfl)
      rcases hl p (by omega) hh with ⟨q, a1, a2, a3, a4, a5, a6⟩ | ⟨a1, _, _, _⟩
      · have hqa : q ≤ a := by
          rcases Nat.lt_or_ge a q with k | k
          · have := a4 a hplt k; omega
          · exact k
        exact .inl ⟨q, a1, by omega, by rw [ins_le (by omega)]; exact a3, fun r r1 r2 => by rw [ins_le (by omega)]; exact a4 r r1 r2, by rw [ins_le (by omega)]; exact k1.trans a5, k2.trans a6⟩
      · have := a1 a hplt (by omega); omega
  · rw [ins_at] at hh; omega
  · rw [ins_gt hPp] at hh
    unfold Lnk
    rw [ins_gt hPp]
    have hpa : p ≠ a := by omega
    have k1 := hk p hpn hpa _ (.inl rfl)
    have k2 := hk p hpn hpa _ (.inr rfl)
    rcases hl p hpn hh with ⟨q, a1, a2, a3, a4, a5, a6⟩ | ⟨a1, a2, j, a3⟩
    · refine .inl ⟨q + 1, by omega, by omega, by rw [ins_gt (by omega)]; exact a3, fun r r1 r2 => ?_, ?_, ?_⟩
      · obtain ⟨r, rfl⟩ : ∃ r', r = r' + 1 := ⟨r - 1, by omega⟩
        rw [ins_gt (by omega)]
        exact a4 r (by omega) (by omega)
      · rw [ins_gt (by omega)]
        exact k1.trans a5
      · rw [show q + 1 - (p + 1) = q - p by omega]
        exact k2.trans a6
    · refine .inr ⟨fun r r1 r2 => ?_, k1.trans a2, j, k2.trans a3⟩
      obtain ⟨r, rfl⟩ : ∃ r', r = r' + 1 := ⟨r - 1, by omega⟩
      rw [ins_gt (by omega)]
      exact a1 r (by omega) (by omega)
end
/-! ### The node at position P + 1 taken out -/
def del {α : Type} (P : Nat) (f : Nat → α) (p : Nat) : α := if p ≤ P then f p else f (p + 1)
theorem del_le {α : Type} {P : Nat} {f : Nat → α} {p : Nat} (h : p ≤ P) : del P f p = f p := by unfold del; rw [if_pos h]
theorem del_gt {α : Type} {P : Nat} {f : Nat → α} {p : Nat} (h : P < p) : del P f p = f (p + 1) := by unfold del; rw [if_neg (by omega)]
section
variable {c c' : Nat → Nat → Option Value} {n : Nat} {bl ht : Nat → Nat} {h P a : Nat}
/-- its height is passed through it: ahead of it a, whose link now is the node's own -/
theorem lvl_del_high (hl : Lvl c (n + 1) bl ht h) (ha : Lst ht P h a) (hP : P ≤ n) (hH : h < ht (P + 1)) {t : Value} {s s1 s' : Int} (cs : c (bl a) (3 + h * 2 + 1) = some (.int .i64 s)) (xt : c (bl (P + 1)) (3 + h * 2) = some t) (xs : c (bl (P + 1)) (3 + h * 2 + 1) = some (.int .i64 s1))
    (e3 : c' (bl a) (3 + h * 2) = some t) (e4 : c' (bl a) (3 + h * 2 + 1) = some (.int .i64 s')) (hs : ∀ q : Nat, P + 1 < q → q ≤ n + 1 → s = ((P + 1 - a : Nat) : Int) → s1 = ((q - (P + 1) : Nat) : Int) → s' = ((q - 1 - a : Nat) : Int))
    (hk : ∀ p, p ≤ n + 1 → p ≠ a → ∀ o, (o = 3 + h * 2 ∨ o = 3 + h * 2 + 1) → c' (bl p) o = c (bl p) o) : Lvl c' n (del P bl) (del P ht) h := by
  obtain ⟨ha1, ha2, ha3⟩ := ha
  have hsa : s = ((P + 1 - a : Nat) : Int) := by
    rcases hl a (by omega) ha2 with ⟨q, a1, a2, a3, a4, a5, a6⟩ | ⟨a1, _, _, _⟩
    · have hq : q = P + 1 := by
        rcases Nat.lt_trichotomy q (P + 1) with k | k | k
        · have := ha3 q a1 (by omega); omega
        · exact k
        · have := a4 (P + 1) (by omega) k; omega
      subst hq
      rw [cs] at a6
      injection a6 with a6
      injection a6
    · have := a1 (P + 1) (by omega) (by omega); omega
  intro p hp hh
  rcases Nat.lt_or_ge P p with hPp | hpP
  · rw [del_gt hPp] at hh
    unfold Lnk
    rw [del_gt hPp]
    have k1 := hk (p + 1) (by omega) (by omega) _ (.inl rfl)
    have k2 := hk (p + 1) (by omega) (by omega) _ (.inr rfl)
    rcases hl (p + 1) (by omega) hh with ⟨q, a1, a2, a3, a4, a5, a6⟩ | ⟨a1, a2, j, a3⟩
    · obtain ⟨q, rfl⟩ : ∃ q', q = q' + 1 := ⟨q - 1, by omega⟩
      refine .inl ⟨q, by omega, by omega, by rw [del_gt (by omega)]; exact a3, fun r r1 r2 => by rw [del_gt (by omega)]; exact a4 _ (by omega) (by omega), by rw [del_gt (by omega)]; exact k1.trans a5, ?_⟩
      rw [show q - p = q + 1 - (p + 1) by omega]
      exact k2.trans a6
    · exact .inr ⟨fun r r1 r2 => by rw [del_gt (by omega)]; exact a1 _ (by omega) (by omega), k1.trans a2, j, k2.trans a3⟩
  · rw [del_le hpP] at hh
    unfold Lnk
    rw [del_le hpP]
    by_cases hpa : p = a
    · subst hpa
      rcases hl (P + 1) (by omega) hH with ⟨q, a1, a2, a3, a4, a5, a6⟩ | ⟨a1, a2, j, a3⟩
      · obtain ⟨q, rfl⟩ : ∃ q', q = q' + 1 := ⟨q - 1, by omega⟩
        rw [xt] at a5
        rw [xs] at a6
        refine .inl ⟨q, by omega, by omega, by rw [del_gt (by omega)]; exact a3, fun r r1 r2 => ?_, by rw [del_gt (by omega), e3]; exact a5, ?_⟩
        · rcases Nat.lt_or_ge P r with k | k
          · rw [del_gt k]; exact a4 _ (by omega) (by omega)
          · rw [del_le k]; exact ha3 r r1 k
        · rw [e4, hs (q + 1) a1 a2 hsa (by injection a6 with a6; injection a6)]
          rfl
      · rw [xt] at a2
        refine .inr ⟨fun r r1 r2 => ?_, by rw [e3]; exact a2, s', e4⟩
        rcases Nat.lt_or_ge P r with k | k
        · rw [del_gt k]; exact a1 _ (by omega) (by omega)
        · rw [del_le k]; exact ha3 r r1 k
    · have hplt : p < a := by
        rcases Nat.lt_or_ge p a with k | k
        · exact k
        · have := ha3 p (by omega) hpP; omega
      have k1 := hk p (by omega) hpa _ (.inl rfl)
      have k2 := hk p (by omega) hpa _ (.inr rfl)
      rcases hl p (by omega) hh with ⟨q, a1, a2, a3, a4, a5, a6⟩ | ⟨a1, _, _, _⟩
      · have hqa : q ≤ a := by
          rcases Nat.lt_or_ge a q with k | k
          · have := a4 a hplt k; omega
          · exact k
        exact .inl ⟨q, a1, by omega, by rw [del_le (by omega)]; exact a3, fun r r1 r2 => by rw [del_le (by omega)]; exact a4 r r1 r2, by rw [del_le (by omega)]; exact k1.trans a5, k2.trans a6⟩
      · have := a1 a hplt (by omega); omega
/-- it does not reach so high -/
theorem lvl_del_low (hl : Lvl c (n + 1) bl ht h) (ha : Lst ht P h a) (hP : P ≤ n) (hH : ht (P + 1) ≤ h) {t : Value} {s s' : Int} (ct : c (bl a) (3 + h * 2) = some t) (cs : c (bl a) (3 + h * 2 + 1) = some (.int .i64 s))
    (e3 : c' (bl a) (3 + h * 2) = some t) (e4 : c' (bl a) (3 + h * 2 + 1) = some (.int .i64 s')) (hs : ∀ q : Nat, P + 1 < q → q ≤ n + 1 → s = ((q - a : Nat) : Int) → s' = ((q - 1 - a : Nat) : Int))
    (hk : ∀ p, p ≤ n + 1 → p ≠ a → ∀ o, (o = 3 + h * 2 ∨ o = 3 + h * 2 + 1) → c' (bl p) o = c (bl p) o) : Lvl c' n (del P bl) (del P ht) h := by
  obtain ⟨ha1, ha2, ha3⟩ := ha
  intro p hp hh
  rcases Nat.lt_or_ge P p with hPp | hpP
  · rw [del_gt hPp] at hh
    unfold Lnk
    rw [del_gt hPp]
    have k1 := hk (p + 1) (by omega) (by omega) _ (.inl rfl)
    have k2 := hk (p + 1) (by omega) (by omega) _ (.inr rfl)
    rcases hl (p + 1) (by omega) hh with ⟨q, a1, a2, a3, a4, a5, a6⟩ | ⟨a1, a2, j, a3⟩
    · obtain ⟨q, rfl⟩ : ∃ q', q = q' + 1 := ⟨q - 1, by omega⟩
      refine .inl ⟨q, by omega, by omega, by rw [del_gt (by omega)]; exact a3, fun r r1 r2 => by rw [del_gt (by omega)]; exact a4 _ (by omega) (by omega), by rw [del_gt (by omega)]; exact k1.trans a5, ?_⟩
      rw [show q - p = q + 1 - (p + 1) by omega]
      exact k2.trans a6
    · exact .inr ⟨fun r r1 r2 => by rw [del_gt (by omega)]; exact a1 _ (by omega) (by omega), k1.trans a2, j, k2.trans a3⟩
  · rw [del_le hpP] at hh
    unfold Lnk
    rw [del_le hpP]
    by_cases hpa : p = a
    · subst hpa
      rcases hl p (by omega) ha2 with ⟨q, a1, a2, a3, a4, a5, a6⟩ | ⟨a1, a2, j, a3⟩
      · have hq : P + 1 < q := by
          rcases Nat.lt_trichotomy q (P + 1) with k | k | k
          · have := ha3 q a1 (by omega); omega
          · rw [k] at a3; omega
          · exact k
        obtain ⟨q, rfl⟩ : ∃ q', q = q' + 1 := ⟨q - 1, by omega⟩
        rw [ct] at a5
        rw [cs] at a6
        refine .inl ⟨q, by omega, by omega, by rw [del_gt (by omega)]; exact a3, fun r r1 r2 => ?_, by rw [del_gt (by omega), e3]; exact a5, ?_⟩
        · rcases Nat.lt_or_ge P r with k | k
          · rw [del_gt k]; exact a4 _ (by omega) (by omega)
          · rw [del_le k]; exact ha3 r r1 k
        · rw [e4, hs (q + 1) hq a2 (by injection a6 with a6; injection a6)]
          rfl
      · rw [ct] at a2
        refine .inr ⟨fun r r1 r2 => ?_, by rw [e3]; exact a2, s', e4⟩
        rcases Nat.lt_or_ge P r with k | k
        · rw [del_gt k]; exact a1 _ (by omega) (by omega)
        · rw [del_le k]; exact ha3 r r1 k
    · have hplt : p < a := by
        rcases Nat.lt_or_ge p a with k | k
        · exact k
        · have := ha3 p (by omega) hpP; omega
      have k1 := hk p (by omega) hpa _ (.inl rfl)
      have k2 := hk p (by omega) hpa _ (.inr rfl)
      rcases hl p (by omega) hh with ⟨q, a1, a2, a3, a4, a5, a6⟩ | ⟨a1, _, _, _⟩
      · have hqa : q ≤ a := by
          rcases Nat.lt_or_ge a q with k | k
          · have := a4 a hplt k; omega
          · exact k
        exact .inl ⟨q, a1, by omega, by rw [del_le (by omega)]; exact a3, fun r r1 r2 => by rw [del_le (by omega)]; exact a4 r r1 r2, by rw [del_le (by omega)]; exact k1.trans a5, k2.trans a6⟩
      · have := a1 a hplt (by omega); omega
end
end Go.Proofs.YtmlaackdcnpjmaaDoor.Skp
