/- Chapter 07: a cursor, read from its highest bit: plain law. -/
import Derived.Test.YtnoalklbgncajaaDoorDdel07
namespace Go.Proofs.YtnoalklbgncajaaDoor.Dct
open Go
/-- one stage of Reverse64: bits swapped s apart -/
def swp (x : BitVec 64) (s : Nat) (m : BitVec 64) : BitVec 64 := ((x >>> s) &&& m) ||| ((x &&& m) <<< s)
theorem swp_bit (x : BitVec 64) (s : Nat) (m : BitVec 64) (i : Nat) (hi : i < 64) : (swp x s m).getLsbD i = ((x.getLsbD (s + i) && m.getLsbD i) || (decide (¬ i < s) && (x.getLsbD (i - s) && m.getLsbD (i - s)))) := by
  unfold swp
  rw [BitVec.getLsbD_or, BitVec.getLsbD_and, BitVec.getLsbD_ushiftRight, BitVec.getLsbD_shiftLeft, BitVec.getLsbD_and]
  simp only [hi, decide_true, Bool.true_and, decide_not]
/-- which bit comes to bit i -/
def xorI (s i : Nat) : Nat := if i / s % 2 = 0 then s + i else i - s
theorem swp_one (x : BitVec 64) (s : Nat) (m : BitVec 64) (h : ∀ i : Fin 64, m.getLsbD i.1 = decide (i.1 / s % 2 = 0) ∧ (¬ i.1 / s % 2 = 0 → m.getLsbD (i.1 - s) = true ∧ ¬ i.1 < s) ∧ (i.1 / s % 2 = 0 → ¬ i.1 < s → m.getLsbD (i.1 - s) = false)) (i : Nat) (hi : i < 64) : (swp x s m).getLsbD i = x.getLsbD (xorI s i) := by
  obtain ⟨h1, h2, h3⟩ := h ⟨i, hi⟩
  have h1 : m.getLsbD i = decide (i / s % 2 = 0) := h1
  have h2 : ¬ i / s % 2 = 0 → m.getLsbD (i - s) = true ∧ ¬ i < s := h2
  have h3 : i / s % 2 = 0 → ¬ i < s → m.getLsbD (i - s) = false := h3
  rw [swp_bit x s m i hi, h1]
  unfold xorI
  by_cases hc : i / s % 2 = 0
  · rw [if_pos hc]
    by_cases hs : i < s
    · simp [hc, hs]
    · simp [hc, hs, h3 hc hs]
  · obtain ⟨h4, h5⟩ := h2 hc
    rw [if_neg hc]
    simp [hc, h4, h5]
def revP (x : BitVec 64) : BitVec 64 :=
  swp (swp (swp (swp (swp (swp x 1 6148914691236517205#64) 2 3689348814741910323#64) 4 1085102592571150095#64) 8 71777214294589695#64) 16 281470681808895#64) 32 4294967295#64
theorem revP_eq (x : BitVec 64) : revP x = x.reverse := by
  refine BitVec.eq_of_getLsbD_eq fun i hi => ?_
  unfold revP
  have key : ∀ j : Fin 64, xorI 32 j.1 < 64 ∧ xorI 16 (xorI 32 j.1) < 64 ∧ xorI 8 (xorI 16 (xorI 32 j.1)) < 64 ∧ xorI 4 (xorI 8 (xorI 16 (xorI 32 j.1))) < 64 ∧ xorI 2 (xorI 4 (xorI 8 (xorI 16 (xorI 32 j.1)))) < 64 ∧ xorI 1 (xorI 2 (xorI 4 (xorI 8 (xorI 16 (xorI 32 j.1))))) = 63 - j.1 := by decide
  obtain ⟨k1, k2, k3, k4, k5, k6⟩ := key ⟨i, hi⟩
  rw [swp_one _ 32 _ (by decide) i hi, swp_one _ 16 _ (by decide) _ k1, swp_one _ 8 _ (by decide) _ k2, swp_one _ 4 _ (by decide) _ k3, swp_one _ 2 _ (by decide) _ k4, swp_one _ 1 _ (by decide) _ k5]
  have k6 : xorI 1 (xorI 2 (xorI 4 (xorI 8 (xorI 16 (xorI 32 i))))) = 63 - i := k6
  rw [k6, BitVec.getLsbD_reverse, BitVec.getMsbD]
  simp [hi]
/-- the last stage as the program has it -/
theorem swp_last (x : BitVec 64) : (x >>> 32) ||| (x <<< 32) = swp x 32 4294967295#64 := by
  refine BitVec.eq_of_getLsbD_eq fun i hi => ?_
  rw [swp_bit _ _ _ i hi, BitVec.getLsbD_or, BitVec.getLsbD_ushiftRight, BitVec.getLsbD_shiftLeft]
  have h : ∀ j : Fin 64, (4294967295#64).getLsbD j.1 = decide (j.1 < 32) ∧ (¬ j.1 < 32 → (4294967295#64).getLsbD (j.1 - 32) = true) := by decide
  obtain ⟨h1, h2⟩ := h ⟨i, hi⟩
  have h1 : (4294967295#64).getLsbD i = decide (i < 32) := h1
  have h2 : ¬ i < 32 → (4294967295#64).getLsbD (i - 32) = true := h2
  by_cases hc : i < 32
  · rw [h1]; simp [hc, hi]
  · rw [h1, h2 hc]
    have : x.getLsbD (32 + i) = false := BitVec.getLsbD_of_ge _ _ (by omega)
    simp [hc, hi, this]
/-- a cursor, or a hash, read from its highest bit -/
def R (v : BitVec 64) : Nat := v.reverse.toNat
theorem R_lt (v : BitVec 64) : R v < 18446744073709551616 := v.reverse.isLt
theorem rev_rev (v : BitVec 64) : v.reverse.reverse = v := by
  refine BitVec.eq_of_getLsbD_eq fun i hi => ?_
  rw [BitVec.getLsbD_reverse, BitVec.getMsbD, BitVec.getLsbD_reverse, BitVec.getMsbD]
  have h1 : 64 - 1 - i < 64 := by omega
  have h2 : 64 - 1 - (64 - 1 - i) = i := by omega
  simp only [hi, h1, h2, decide_true, Bool.true_and]
theorem rev_zero : (0#64).reverse = 0#64 := by
  refine BitVec.eq_of_getLsbD_eq fun i hi => ?_
  rw [BitVec.getLsbD_reverse, BitVec.getMsbD]
  simp
theorem R_zero {v : BitVec 64} : R v = 0 ↔ v = 0#64 := by
  constructor
  · intro h
    have h1 : v.reverse = 0#64 := BitVec.eq_of_toNat_eq h
    rw [← rev_rev v, h1, rev_zero]
  · rintro rfl
    show (0#64).reverse.toNat = 0
    rw [rev_zero]
    rfl
/-- the cursor behind a place of a table of 2^b -/
def nextP (v : BitVec 64) (n : Nat) : BitVec 64 := ((v ||| ~~~(BitVec.ofNat 64 (n - 1))).reverse + 1#64).reverse
theorem R_bit (v : BitVec 64) (i : Nat) (hi : i < 64) : (R v).testBit i = v.getLsbD (63 - i) := by
  unfold R
  rw [BitVec.testBit_toNat, BitVec.getLsbD_reverse, BitVec.getMsbD]
  simp [hi]
theorem or_ones (x k : Nat) : x ||| (2 ^ k - 1) = x / 2 ^ k * 2 ^ k + (2 ^ k - 1) := by
  have h0 : 0 < 2 ^ k := Nat.two_pow_pos k
  rw [Nat.mul_comm, Nat.two_pow_add_eq_or_of_lt (by omega)]
  refine Nat.eq_of_testBit_eq fun i => ?_
  rw [Nat.testBit_or, Nat.testBit_or, Nat.testBit_two_pow_sub_one, Nat.testBit_two_pow_mul, Nat.testBit_div_two_pow]
  by_cases h : i < k
  · simp [h]
  · have : k ≤ i := by omega
    simp [h, this]
theorem rev_mask (b : Nat) (hb : b ≤ 64) : (~~~(BitVec.ofNat 64 (2 ^ b - 1))).reverse.toNat = 2 ^ (64 - b) - 1 := by
  refine Nat.eq_of_testBit_eq fun i => ?_
  rw [BitVec.testBit_toNat, BitVec.getLsbD_reverse, BitVec.getMsbD, BitVec.getLsbD_not, BitVec.getLsbD_ofNat, Nat.testBit_two_pow_sub_one, Nat.testBit_two_pow_sub_one]
  by_cases hi : i < 64
  · have h1 : 64 - 1 - i < 64 := by omega
    simp only [hi, h1, decide_true, Bool.true_and]
    by_cases h2 : i < 64 - b
    · have : ¬ 64 - 1 - i < b := by omega
      simp [h2, this]
    · have : 64 - 1 - i < b := by omega
      simp [h2, this]
  · have : ¬ i < 64 - b := by omega
    simp [hi, this]
theorem R_or (v u : BitVec 64) : R (v ||| u) = R v ||| R u := by
  unfold R
  rw [← BitVec.toNat_or]
  congr 1
  refine BitVec.eq_of_getLsbD_eq fun i hi => ?_
  rw [BitVec.getLsbD_or, BitVec.getLsbD_reverse, BitVec.getLsbD_reverse, BitVec.getLsbD_reverse, BitVec.getMsbD, BitVec.getMsbD, BitVec.getMsbD, BitVec.getLsbD_or]
  cases decide (i < 64) <;> simp
theorem R_next (v : BitVec 64) (b : Nat) (hb : b ≤ 64) : R (nextP v (2 ^ b)) = (R v / 2 ^ (64 - b) + 1) * 2 ^ (64 - b) % 18446744073709551616 := by
  have h0 : 0 < 2 ^ (64 - b) := Nat.two_pow_pos _
  have h1 : R (nextP v (2 ^ b)) = ((v ||| ~~~(BitVec.ofNat 64 (2 ^ b - 1))).reverse + 1#64).toNat := by
    unfold nextP R
    rw [rev_rev]
  have h2 : (v ||| ~~~(BitVec.ofNat 64 (2 ^ b - 1))).reverse.toNat = R v / 2 ^ (64 - b) * 2 ^ (64 - b) + (2 ^ (64 - b) - 1) := by
    have h3 := R_or v (~~~(BitVec.ofNat 64 (2 ^ b - 1)))
    have h4 : R (~~~(BitVec.ofNat 64 (2 ^ b - 1))) = 2 ^ (64 - b) - 1 := rev_mask b hb
    rw [h4, or_ones] at h3
    exact h3
  rw [h1, BitVec.toNat_add, h2]
  have h5 : (1#64).toNat = 1 := rfl
  rw [h5, Nat.add_mul, Nat.one_mul]
  congr 1
  omega
/-- the place of a cursor in a table -/
theorem place_eq (v u : BitVec 64) (b : Nat) (hb : b ≤ 64) : (v.toNat % 2 ^ b = u.toNat % 2 ^ b) ↔ R v / 2 ^ (64 - b) = R u / 2 ^ (64 - b) := by
  constructor
  · intro h
    refine Nat.eq_of_testBit_eq fun i => ?_
    rw [Nat.testBit_div_two_pow, Nat.testBit_div_two_pow]
    by_cases hi : i + (64 - b) < 64
    · rw [R_bit _ _ hi, R_bit _ _ hi]
      have h1 := congrArg (fun x => Nat.testBit x (63 - (i + (64 - b)))) h
      simp only [Nat.testBit_mod_two_pow] at h1
      have h2 : 63 - (i + (64 - b)) < b := by omega
      simp only [h2, decide_true, Bool.true_and, BitVec.testBit_toNat] at h1
      exact h1
    · have hp : 18446744073709551616 ≤ 2 ^ (i + (64 - b)) := Nat.le_trans (Nat.le_refl (2 ^ 64)) (Nat.pow_le_pow_right (by decide) (show 64 ≤ i + (64 - b) by omega))
      rw [Nat.testBit_lt_two_pow (Nat.lt_of_lt_of_le (R_lt v) hp), Nat.testBit_lt_two_pow (Nat.lt_of_lt_of_le (R_lt u) hp)]
  · intro h
    refine Nat.eq_of_testBit_eq fun i => ?_
    rw [Nat.testBit_mod_two_pow, Nat.testBit_mod_two_pow]
    by_cases hi : i < b
    · have h1 := congrArg (fun x => Nat.testBit x (b - 1 - i)) h
      simp only [Nat.testBit_div_two_pow] at h1
      have hq : b - 1 - i + (64 - b) < 64 := by omega
      rw [R_bit v _ hq, R_bit u _ hq] at h1
      have h2 : 63 - (b - 1 - i + (64 - b)) = i := by omega
      rw [h2] at h1
      rw [BitVec.testBit_toNat, BitVec.testBit_toNat, h1]
    · simp [hi]
/-- are the bits of a cursor from the a-th to the b-th all 0 -/
theorem low_eq (v : BitVec 64) (a b : Nat) (hab : a ≤ b) (hb : b ≤ 64) (hm : R v % 2 ^ (64 - b) = 0) : v.toNat % 2 ^ b < 2 ^ a ↔ R v % 2 ^ (64 - a) = 0 := by
  constructor
  · intro h
    refine Nat.eq_of_testBit_eq fun i => ?_
    rw [Nat.testBit_mod_two_pow, Nat.zero_testBit]
    by_cases hi : i < 64 - a
    · simp only [hi, decide_true, Bool.true_and]
      rw [R_bit _ _ (by omega)]
      by_cases h2 : i < 64 - b
      · have h3 := congrArg (fun x => Nat.testBit x i) hm
        simp only [Nat.testBit_mod_two_pow, Nat.zero_testBit, h2, decide_true, Bool.true_and] at h3
        rw [R_bit _ _ (by omega)] at h3
        exact h3
      · have h3 := Nat.testBit_lt_two_pow (Nat.lt_of_lt_of_le h (Nat.pow_le_pow_right (by omega) (show a ≤ 63 - i by omega)))
        rw [Nat.testBit_mod_two_pow] at h3
        have h4 : 63 - i < b := by omega
        simp only [h4, decide_true, Bool.true_and, BitVec.testBit_toNat] at h3
        exact h3
    · simp [hi]
  · intro h
    refine Nat.lt_pow_two_of_testBit _ fun i hi => ?_
    rw [Nat.testBit_mod_two_pow]
    by_cases h2 : i < b
    · have h3 := congrArg (fun x => Nat.testBit x (63 - i)) h
      have h4 : 63 - i < 64 - a := by omega
      simp only [Nat.testBit_mod_two_pow, Nat.zero_testBit, h4, decide_true, Bool.true_and] at h3
      rw [R_bit _ _ (by omega)] at h3
      have h5 : 63 - (63 - i) = i := by omega
      rw [h5] at h3
      rw [BitVec.testBit_toNat, h3]
      simp
    · simp [h2]
end Go.Proofs.YtnoalklbgncajaaDoor.Dct
