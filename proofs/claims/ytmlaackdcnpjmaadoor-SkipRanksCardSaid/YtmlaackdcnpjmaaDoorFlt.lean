/- Floats of 64 bits, plainly: their order is that of whole numbers; a sum with nought is the float itself, but for minus nought. Over any program. -/
import Derived.Test.YtmlaackdcnpjmaaDoorProg
namespace Go.Proofs.YtmlaackdcnpjmaaDoor.Flt
open Ieee
/-- what stands at a rung: it rises strictly -/
def rungK (r : Nat) : Nat := if r < 2 ^ 52 then r else (2 ^ 52 + r % 2 ^ 52) * 2 ^ (r / 2 ^ 52 - 1)
theorem rungK_succ (r : Nat) : rungK r < rungK (r + 1) := by
  unfold rungK
  have hb : (2 : Nat) ^ 52 = 4503599627370496 := by decide
  rw [hb]
  by_cases h1 : r + 1 < 4503599627370496
  · rw [if_pos (by omega), if_pos h1]; omega
  · by_cases h2 : r < 4503599627370496
    · have : r = 4503599627370495 := by omega
      subst this
      decide
    · rw [if_neg h2, if_neg h1]
      by_cases h3 : r % 4503599627370496 = 4503599627370495
      · have e1 : (r + 1) % 4503599627370496 = 0 := by omega
        have e2 : (r + 1) / 4503599627370496 - 1 = (r / 4503599627370496 - 1) + 1 := by omega
        rw [e1, e2, h3, Nat.pow_succ]
        have hp : 0 < 2 ^ (r / 4503599627370496 - 1) := Nat.pow_pos (by omega)
        generalize 2 ^ (r / 4503599627370496 - 1) = p at hp
        omega
      · have e1 : (r + 1) % 4503599627370496 = r % 4503599627370496 + 1 := by omega
        have e2 : (r + 1) / 4503599627370496 = r / 4503599627370496 := by omega
        rw [e1, e2]
        exact Nat.mul_lt_mul_of_pos_right (by omega) (Nat.pow_pos (by omega))
theorem rungK_lt {r s : Nat} (h : r < s) : rungK r < rungK s := by
  induction s with
  | zero => omega
  | succ s ih =>
    rcases Nat.lt_or_ge r s with h' | h'
    · exact Nat.lt_trans (ih h') (rungK_succ s)
    · obtain rfl : r = s := by omega
      exact rungK_succ r
theorem rungK_inj {r s : Nat} (h : rungK r = rungK s) : r = s := by
  rcases Nat.lt_trichotomy r s with h' | h' | h'
  · have := rungK_lt h'; omega
  · exact h'
  · have := rungK_lt h'; omega
theorem rungK_zero : rungK 0 = 0 := rfl
/-- the sign, the rung -/
def sgn (x : Nat) : Bool := x / 2 ^ 63 % 2 == 1
def rung (x : Nat) : Nat := x % 2 ^ 63
/-- no NaN -/
def Num (x : Nat) : Prop := rung x ≤ 2047 * 2 ^ 52
def keyI (x : Nat) : Int := if sgn x then -(rungK (rung x) : Int) else (rungK (rung x) : Int)
theorem read_num {x : Nat} (h : rung x < 2047 * 2 ^ 52) : ∃ m, ∃ d : Nat, FloatKind.f64.format.read x = .number (sgn x) m (-1074 + (d : Int)) ∧ m * 2 ^ d = rungK (rung x) ∧ (m = 0 ↔ rung x = 0) := by
  have e : FloatKind.f64.format.read x = (if rung x < 2 ^ 52 then .number (sgn x) (rung x) (-1074) else if rung x < 2047 * 2 ^ 52 then .number (sgn x) (2 ^ 52 + rung x % 2 ^ 52) (-1074 + ((rung x / 2 ^ 52 - 1 : Nat) : Int)) else if rung x = 2047 * 2 ^ 52 then .infinity (sgn x) else .nan (sgn x) (rung x - 2047 * 2 ^ 52)) := rfl
  rw [e]
  by_cases h1 : rung x < 2 ^ 52
  · rw [if_pos h1]
    exact ⟨rung x, 0, by simp, by unfold rungK; rw [if_pos h1]; omega, Iff.rfl⟩
  · rw [if_neg h1, if_pos h]
    refine ⟨_, rung x / 2 ^ 52 - 1, rfl, by unfold rungK; rw [if_neg h1], ?_⟩
    have hb : (2 : Nat) ^ 52 = 4503599627370496 := by decide
    rw [hb] at h1 ⊢
    omega
theorem read_inf {x : Nat} (h : rung x = 2047 * 2 ^ 52) : FloatKind.f64.format.read x = .infinity (sgn x) := by
  have e : FloatKind.f64.format.read x = (if rung x < 2 ^ 52 then .number (sgn x) (rung x) (-1074) else if rung x < 2047 * 2 ^ 52 then .number (sgn x) (2 ^ 52 + rung x % 2 ^ 52) (-1074 + ((rung x / 2 ^ 52 - 1 : Nat) : Int)) else if rung x = 2047 * 2 ^ 52 then .infinity (sgn x) else .nan (sgn x) (rung x - 2047 * 2 ^ 52)) := rfl
  rw [e, h]
  rfl
theorem read_nan {x : Nat} (h : ¬ Num x) : ∃ s f, FloatKind.f64.format.read x = .nan s f := by
  have e : FloatKind.f64.format.read x = (if rung x < 2 ^ 52 then .number (sgn x) (rung x) (-1074) else if rung x < 2047 * 2 ^ 52 then .number (sgn x) (2 ^ 52 + rung x % 2 ^ 52) (-1074 + ((rung x / 2 ^ 52 - 1 : Nat) : Int)) else if rung x = 2047 * 2 ^ 52 then .infinity (sgn x) else .nan (sgn x) (rung x - 2047 * 2 ^ 52)) := rfl
  unfold Num at h
  rw [e, if_neg (by omega), if_neg (by omega), if_neg (by omega)]
  exact ⟨_, _, rfl⟩
theorem signed_scale (s : Bool) (m d u : Nat) : signed s m (d + u) = signed s (m * 2 ^ d) u := by
  unfold signed
  rw [Nat.shiftLeft_eq, Nat.shiftLeft_eq, Nat.pow_add, Nat.mul_assoc]
theorem signed_mul (s : Bool) (m u : Nat) : signed s m u = (if s then -(m : Int) else (m : Int)) * ((2 ^ u : Nat) : Int) := by
  unfold signed
  rw [Nat.shiftLeft_eq]
  cases s <;> simp [Int.natCast_mul, Int.neg_mul]
theorem signed_split (s : Bool) (m : Nat) {u k d : Nat} (h : u + k = d) : signed s m d = signed s m u * ((2 ^ k : Nat) : Int) := by
  rw [← h, signed_mul, signed_mul, Nat.pow_add, Int.natCast_mul, ← Int.mul_assoc]
theorem compare_mul (a b : Int) (p : Nat) (hp : 0 < p) : compare (a * (p : Int)) (b * (p : Int)) = compare a b := by
  have hp' : (0 : Int) < p := by omega
  rcases Int.lt_trichotomy a b with h | h | h
  · rw [Int.compare_eq_lt.2 h, Int.compare_eq_lt.2 (Int.mul_lt_mul_of_pos_right h hp')]
  · subst h; simp
  · rw [Int.compare_eq_gt.2 h, Int.compare_eq_gt.2 (Int.mul_lt_mul_of_pos_right h hp')]
theorem inf_top {x : Nat} (h : rung x < 2047 * 2 ^ 52) : rungK (rung x) < rungK (2047 * 2 ^ 52) := rungK_lt h
/-- the order of two floats is that of two whole numbers -/
theorem order_num {x y : Nat} (hx : Num x) (hy : Num y) : FloatKind.f64.format.order x y = some (compare (keyI x) (keyI y)) := by
  unfold Format.order
  rcases Nat.lt_or_ge (rung x) (2047 * 2 ^ 52) with hx' | hx'
  · obtain ⟨m, d, e1, k1, -⟩ := read_num hx'
    rcases Nat.lt_or_ge (rung y) (2047 * 2 ^ 52) with hy' | hy'
    · obtain ⟨n, c, e2, k2, -⟩ := read_num hy'
      rw [e1, e2]
      show some (compare _ _) = _
      congr 1
      have hkx : keyI x = signed (sgn x) m d := by unfold keyI; rw [← k1, signed, Nat.shiftLeft_eq]
      have hky : keyI y = signed (sgn y) n c := by unfold keyI; rw [← k2, signed, Nat.shiftLeft_eq]
      rw [hkx, hky]
      have hb : min (-1074 + (d : Int)) (-1074 + (c : Int)) = -1074 + ((min d c : Nat) : Int) := by omega
      have h1 : (-1074 + (d : Int) - (-1074 + ((min d c : Nat) : Int))).toNat + min d c = d := by omega
      have h2 : (-1074 + (c : Int) - (-1074 + ((min d c : Nat) : Int))).toNat + min d c = c := by omega
      rw [hb]
      generalize (-1074 + (d : Int) - (-1074 + ((min d c : Nat) : Int))).toNat = u at h1 ⊢
      generalize (-1074 + (c : Int) - (-1074 + ((min d c : Nat) : Int))).toNat = v at h2 ⊢
      rw [signed_split (sgn x) m h1, signed_split (sgn y) n h2, compare_mul _ _ _ (Nat.pow_pos (by omega))]
    · have hy2 : rung y = 2047 * 2 ^ 52 := Nat.le_antisymm hy hy'
      rw [e1, read_inf hy2]
      have ht := inf_top hx'
      show some (if sgn y then Ordering.gt else Ordering.lt) = _
      unfold keyI
      rw [hy2]
      generalize rungK (rung x) = a at ht
      generalize rungK (2047 * 2 ^ 52) = b at ht
      cases sgn y <;> cases sgn x <;> simp only [if_true, if_false, Bool.false_eq_true]
      · rw [Int.compare_eq_lt.2 (by omega)]
      · rw [Int.compare_eq_lt.2 (by omega)]
      · rw [Int.compare_eq_gt.2 (by omega)]
      · rw [Int.compare_eq_gt.2 (by omega)]
  · have hx2 : rung x = 2047 * 2 ^ 52 := Nat.le_antisymm hx hx'
    rw [read_inf hx2]
    rcases Nat.lt_or_ge (rung y) (2047 * 2 ^ 52) with hy' | hy'
    · obtain ⟨n, c, e2, k2, -⟩ := read_num hy'
      rw [e2]
      have ht := inf_top hy'
      show some (if sgn x then Ordering.lt else Ordering.gt) = _
      unfold keyI
      rw [hx2]
      generalize rungK (rung y) = a at ht
      generalize rungK (2047 * 2 ^ 52) = b at ht
      cases sgn y <;> cases sgn x <;> simp only [if_true, if_false, Bool.false_eq_true]
      · rw [Int.compare_eq_gt.2 (by omega)]
      · rw [Int.compare_eq_lt.2 (by omega)]
      · rw [Int.compare_eq_gt.2 (by omega)]
      · rw [Int.compare_eq_lt.2 (by omega)]
    · have hy2 : rung y = 2047 * 2 ^ 52 := Nat.le_antisymm hy hy'
      rw [read_inf hy2]
      have hpos : 0 < rungK (2047 * 2 ^ 52) := rungK_lt (r := 0) (by decide)
      show some (compare (sgn y).toNat (sgn x).toNat) = _
      unfold keyI
      rw [hx2, hy2]
      generalize rungK (2047 * 2 ^ 52) = b at hpos
      cases sgn y <;> cases sgn x <;> simp only [if_true, if_false, Bool.false_eq_true]
      · simp
      · rw [Int.compare_eq_lt.2 (by omega)]; rfl
      · rw [Int.compare_eq_gt.2 (by omega)]; rfl
      · simp
theorem order_none {x y : Nat} (h : ¬ (Num x ∧ Num y)) : FloatKind.f64.format.order x y = none := by
  unfold Format.order
  by_cases hx : Num x
  · obtain ⟨s, f, e⟩ := read_nan (fun hy => h ⟨hx, hy⟩)
    rw [e]
    cases FloatKind.f64.format.read x <;> rfl
  · obtain ⟨s, f, e⟩ := read_nan hx
    rw [e]
    rfl
theorem num_iff (x : Nat) : Num x ↔ FloatKind.f64.format.order x x = some .eq := by
  constructor
  · intro h
    rw [order_num h h]
    simp
  · intro h
    by_cases hn : Num x
    · exact hn
    · rw [order_none (fun k => hn k.1)] at h
      cases h
/-- a float as its sign and rung -/
theorem word_of {x : Nat} (hx : x < 2 ^ 64) : FloatKind.f64.format.word (sgn x) (rung x) = x := by
  have e : FloatKind.f64.format.word (sgn x) (rung x) = if sgn x then 2 ^ 63 + rung x else rung x := rfl
  have hb : (2 : Nat) ^ 63 = 9223372036854775808 := by decide
  have hb' : (2 : Nat) ^ 64 = 18446744073709551616 := by decide
  rw [hb'] at hx
  rw [e]
  unfold sgn rung
  rw [hb]
  rcases Nat.lt_or_ge x 9223372036854775808 with h | h
  · rw [show x / 9223372036854775808 = 0 by omega]
    simp
    omega
  · rw [show x / 9223372036854775808 = 1 by omega]
    simp
    omega
/-- equal floats that are no noughts are one -/
theorem same_of {x y : Nat} (hx : x < 2 ^ 64) (hy : y < 2 ^ 64) (h : keyI x = keyI y) (hz : rung x = 0 → sgn x = false) (hz' : rung y = 0 → sgn y = false) : x = y := by
  rw [← word_of hx, ← word_of hy]
  have h0 : ∀ r, rungK r = 0 → r = 0 := fun r h => rungK_inj (h.trans rungK_zero.symm)
  have hr : rung x = rung y ∧ sgn x = sgn y := by
    unfold keyI at h
    by_cases hx0 : rung x = 0
    · have hy0 : rung y = 0 := by
        rw [hx0, rungK_zero] at h
        apply h0
        cases sgn x <;> cases sgn y <;> simp at h <;> omega
      exact ⟨by omega, by rw [hz hx0, hz' hy0]⟩
    · have h1 : rungK (rung x) ≠ 0 := fun e => hx0 (h0 _ e)
      have h2 : rungK (rung x) = rungK (rung y) ∧ sgn x = sgn y := by
        cases hs : sgn x <;> cases ht : sgn y <;> simp [hs, ht] at h
        · exact ⟨by omega, rfl⟩
        · omega
        · omega
        · exact ⟨by omega, rfl⟩
      exact ⟨rungK_inj h2.1, h2.2⟩
  rw [hr.1, hr.2]
theorem cut_exact (s : Bool) (m d : Nat) (hm : 0 < m) : Toward.even.cut s (m * 2 ^ d) d = m := by
  have hd : d ≤ (m * 2 ^ d).log2 := by
    rw [Nat.le_log2 (by have := Nat.mul_pos hm (Nat.pow_pos (a := 2) (n := d) (by omega)); omega)]
    exact Nat.le_mul_of_pos_left _ hm
  unfold Toward.cut
  simp only [Nat.min_eq_left (show d ≤ (m * 2 ^ d).log2 + 2 by omega), Nat.one_shiftLeft]
  have hp : 0 < 2 ^ d := Nat.pow_pos (by omega)
  rw [Nat.mul_div_cancel _ hp, Nat.mul_mod_left]
  simp
theorem cut_zero (s : Bool) (n : Nat) : Toward.even.cut s n 0 = n := by
  unfold Toward.cut
  simp [Nat.mod_one]
theorem log_two {n k : Nat} (h1 : 2 ^ k ≤ n) (h2 : n < 2 ^ (k + 1)) : n.log2 = k := by
  have h0 : n ≠ 0 := by have := Nat.pow_pos (a := 2) (n := k) (by omega); omega
  have a := (Nat.le_log2 h0).2 h1
  have b := (Nat.log2_lt h0).2 h2
  omega
theorem nearest_rung (s : Bool) {r : Nat} (h0 : 0 < r) (h : r < 2047 * 2 ^ 52) : FloatKind.f64.format.nearest s (rungK r) (-1074) = FloatKind.f64.format.word s r := by
  have hb : (2 : Nat) ^ 52 = 4503599627370496 := by decide
  have hK : rungK r ≠ 0 := by have := rungK_lt h0; rw [rungK_zero] at this; omega
  have e : FloatKind.f64.format.nearest s (rungK r) (-1074) = if rungK r = 0 then FloatKind.f64.format.word s 0 else
      FloatKind.f64.format.word s (min ((max (-1074 + ((rungK r).log2 : Int) - 52) (-1074) - -1074).toNat * 2 ^ 52 + Toward.even.cut s (rungK r <<< (-1074 - max (-1074 + ((rungK r).log2 : Int) - 52) (-1074)).toNat) (max (-1074 + ((rungK r).log2 : Int) - 52) (-1074) - -1074).toNat) (2047 * 2 ^ 52)) := rfl
  rw [e, if_neg hK]
  congr 1
  by_cases h1 : r < 2 ^ 52
  · have hr : rungK r = r := by unfold rungK; rw [if_pos h1]
    have hl : r.log2 < 52 := (Nat.log2_lt (by omega)).2 h1
    rw [hr, show max (-1074 + (r.log2 : Int) - 52) (-1074) = -1074 by omega]
    simp only [show ((-1074 : Int) - -1074).toNat = 0 from rfl, Nat.shiftLeft_zero, cut_zero]
    rw [hb] at h ⊢
    omega
  · have hr : rungK r = (2 ^ 52 + r % 2 ^ 52) * 2 ^ (r / 2 ^ 52 - 1) := by unfold rungK; rw [if_neg h1]
    have hl : (rungK r).log2 = 52 + (r / 2 ^ 52 - 1) := by
      have hp : 0 < 2 ^ (r / 2 ^ 52 - 1) := Nat.pow_pos (by omega)
      apply log_two
      · rw [hr, Nat.pow_add]
        exact Nat.mul_le_mul_right _ (by omega)
      · rw [hr, show 52 + (r / 2 ^ 52 - 1) + 1 = 53 + (r / 2 ^ 52 - 1) by omega, Nat.pow_add]
        refine Nat.mul_lt_mul_of_pos_right ?_ hp
        rw [hb]
        have : (2 : Nat) ^ 53 = 9007199254740992 := by decide
        omega
    rw [hl, show max (-1074 + ((52 + (r / 2 ^ 52 - 1) : Nat) : Int) - 52) (-1074) = -1074 + ((r / 2 ^ 52 - 1 : Nat) : Int) by omega]
    rw [show (-1074 + ((r / 2 ^ 52 - 1 : Nat) : Int) - -1074).toNat = r / 2 ^ 52 - 1 by omega, show ((-1074 : Int) - (-1074 + ((r / 2 ^ 52 - 1 : Nat) : Int))).toNat = 0 by omega]
    rw [Nat.shiftLeft_zero, hr, cut_exact s _ _ (by omega)]
    rw [hb] at h h1 ⊢
    omega
theorem add_zero {x : Nat} (hx : x < 2 ^ 64) (h : Num x) : FloatKind.f64.format.add x 0 = some (if rung x = 0 then 0 else x) := by
  unfold Format.add
  have r0 : FloatKind.f64.format.read 0 = .number false 0 (-1074) := rfl
  rw [r0]
  rcases Nat.lt_or_ge (rung x) (2047 * 2 ^ 52) with hx' | hx'
  · obtain ⟨m, d, e1, k1, hm⟩ := read_num hx'
    rw [e1]
    have hs : (Datum.number (sgn x) m (-1074 + (d : Int))).sum (.number false 0 (-1074)) = some (.number (if signed (sgn x) m d + signed false 0 0 = 0 then sgn x && false else signed (sgn x) m d + signed false 0 0 < 0) (signed (sgn x) m d + signed false 0 0).natAbs (-1074)) := by
      show some _ = some _
      rw [show min (-1074 + (d : Int)) (-1074) = -1074 by omega, show (-1074 + (d : Int) - -1074).toNat = d by omega, show ((-1074 : Int) - -1074).toNat = 0 from rfl]
    rw [hs]
    have hz : signed false 0 0 = 0 := rfl
    have hsm : signed (sgn x) m d = keyI x := by unfold keyI; rw [← k1, signed, Nat.shiftLeft_eq]
    rw [hz, Int.add_zero, hsm]
    by_cases h0 : rung x = 0
    · rw [if_pos h0]
      have hk : keyI x = 0 := by unfold keyI; rw [h0, rungK_zero]; simp
      rw [hk]
      simp
      rfl
    · rw [if_neg h0]
      have hK : 0 < rungK (rung x) := by have := rungK_lt (r := 0) (s := rung x) (by omega); rw [rungK_zero] at this; exact this
      have hne : keyI x ≠ 0 := by unfold keyI; cases sgn x <;> simp <;> omega
      have hab : (keyI x).natAbs = rungK (rung x) := by unfold keyI; cases sgn x <;> simp
      have hlt : decide (keyI x < 0) = sgn x := by unfold keyI; cases sgn x <;> simp <;> omega
      rw [if_neg hne, hab, hlt]
      show some (FloatKind.f64.format.nearest (sgn x) (rungK (rung x)) (-1074)) = _
      rw [nearest_rung _ (by omega) hx', word_of hx]
  · have hx2 : rung x = 2047 * 2 ^ 52 := Nat.le_antisymm h hx'
    rw [read_inf hx2]
    have : rung x ≠ 0 := by rw [hx2]; decide
    rw [if_neg this]
    show some (FloatKind.f64.format.word (sgn x) (2047 * 2 ^ 52)) = some x
    rw [← hx2, word_of hx]
end Go.Proofs.YtmlaackdcnpjmaaDoor.Flt
