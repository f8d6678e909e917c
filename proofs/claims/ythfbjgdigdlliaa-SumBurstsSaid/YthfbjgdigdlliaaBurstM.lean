/- Bursts, as plain mathematics: turning one bit of a text adds to its checksum what the register makes of that bit; no bits within one word make nought. -/
import Derived.Test.YthfbjgdigdlliaaCrcM
namespace Go.Proofs.Ythfbjgdigdlliaa.Sum

theorem citer_add (m n : Nat) (x : BitVec 64) : citer (m + n) x = citer m (citer n x) := by
  induction m with
  | zero => simp [citer]
  | succ m ih => rw [Nat.succ_add, citer, citer, ih]
theorem cstep_zero {x : BitVec 64} (h : cstep x = 0#64) : x = 0#64 := by
  rw [cstep_eq] at h
  have h0 : x.getLsbD 0 = false := by
    cases hb : x.getLsbD 0 with
    | false => rfl
    | true =>
      rw [hb] at h
      have h63 := congrArg (fun y => y.getLsbD 63) h
      simp only [BitVec.getLsbD_xor, BitVec.getLsbD_ushiftRight, if_true] at h63
      rw [BitVec.getLsbD_of_ge x (1 + 63) (by omega)] at h63
      revert h63
      decide
  rw [h0] at h
  simp at h
  apply BitVec.eq_of_getLsbD_eq
  intro i hi
  cases i with
  | zero => rw [h0]; simp
  | succ i =>
    have := congrArg (fun y => y.getLsbD i) h
    simp [BitVec.getLsbD_ushiftRight] at this
    rw [Nat.add_comm, this]
    simp
theorem citer_nought {n : Nat} {x : BitVec 64} (h : citer n x = 0#64) : x = 0#64 := by
  induction n with
  | zero => exact h
  | succ n ih => exact ih (cstep_zero h)
/-- a word's bit, moved to the register's end -/
theorem citer_bit (i : Nat) (hi : i < 64) : citer i (1#64 <<< i) = 1#64 := by
  rw [citer_high i _ (fun j hj => by simp [hj])]
  apply BitVec.eq_of_getLsbD_eq
  intro j hj
  simp
  by_cases h : j = 0
  · subst h; simp [hi]
  · simp [h]
theorem tstep_xor (a b : BitVec 64) (c : UInt8) : tstep (a ^^^ b) c = tstep a c ^^^ citer 8 b := by
  rw [tstep_eq, tstep_eq, show a ^^^ b ^^^ zx c = (a ^^^ zx c) ^^^ b by rw [BitVec.xor_assoc, BitVec.xor_comm b, ← BitVec.xor_assoc], citer_xor]
theorem crcT_xor (a b : BitVec 64) (l : List UInt8) : crcT (a ^^^ b) l = crcT a l ^^^ citer (8 * l.length) b := by
  induction l generalizing a b with
  | nil => simp [crcT, citer]
  | cons c l ih =>
    have e : 8 * (c :: l).length = 8 * l.length + 8 := by simp; omega
    rw [e, citer_add]
    show crcT (tstep (a ^^^ b) c) l = crcT (tstep a c) l ^^^ _
    rw [tstep_xor, ih]
theorem zx_xor (x m : UInt8) : zx (x ^^^ m) = zx x ^^^ zx m := by
  unfold zx
  apply BitVec.eq_of_getLsbD_eq
  intro i hi
  simp
theorem crcT_set (s : BitVec 64) : ∀ (l : List UInt8) (q : Nat) (h : q < l.length) (m : UInt8), crcT s (l.set q (l[q] ^^^ m)) = crcT s l ^^^ citer (8 * (l.length - q)) (zx m)
  | [], q, h, m => by simp at h
  | c :: l, 0, h, m => by
    show crcT (tstep s (c ^^^ m)) l = crcT (tstep s c) l ^^^ _
    rw [tstep_eq, zx_xor, ← BitVec.xor_assoc, citer_xor, crcT_xor, ← tstep_eq, ← citer_add]
    congr 2
  | c :: l, q + 1, h, m => by
    have hq : q < l.length := by simpa using h
    show crcT (tstep s c) (l.set q (l[q] ^^^ m)) = crcT (tstep s c) l ^^^ _
    rw [crcT_set (tstep s c) l q hq m]
    congr 2
    simp
/-- the byte with one bit -/
def bit8 (r : Nat) : UInt8 := UInt8.ofBitVec (1#8 <<< r)
theorem zx_bit8 (r : Nat) (hr : r < 8) : zx (bit8 r) = 1#64 <<< r := by
  have : r = 0 ∨ r = 1 ∨ r = 2 ∨ r = 3 ∨ r = 4 ∨ r = 5 ∨ r = 6 ∨ r = 7 := by omega
  rcases this with rfl | rfl | rfl | rfl | rfl | rfl | rfl | rfl <;> decide
/-- one more bit of a burst -/
theorem burst_step (s0 : BitVec 64) (l : List UInt8) (x acc : BitVec 64) (f i n : Nat) (hn : n = f + i) (hi : i < 64) (hl : n < 8 * l.length) (hq : n / 8 < l.length)
    (h : crcT s0 l = x ^^^ citer (8 * l.length - f) acc) :
    crcT s0 (l.set (n / 8) (l[n / 8] ^^^ bit8 (n % 8))) = x ^^^ citer (8 * l.length - f) (acc ^^^ (1#64 <<< i)) := by
  rw [crcT_set s0 l (n / 8) hq, h, zx_bit8 _ (by omega), citer_xor, BitVec.xor_assoc]
  congr 2
  rw [show 8 * (l.length - n / 8) = (8 * l.length - n) + n % 8 by omega, citer_add, citer_bit _ (by omega),
    show 8 * l.length - f = (8 * l.length - n) + i by omega, citer_add, citer_bit _ hi]
theorem acc_high {acc : BitVec 64} {i : Nat} (h : ∀ j, i ≤ j → acc.getLsbD j = false) (hi : i < 64) :
    (acc ^^^ (1#64 <<< i) ≠ 0#64) ∧ ∀ j, i + 1 ≤ j → (acc ^^^ (1#64 <<< i)).getLsbD j = false := by
  constructor
  · intro e
    have := congrArg (fun y => y.getLsbD i) e
    simp only [BitVec.getLsbD_xor, h i (Nat.le_refl i)] at this
    simp [hi] at this
  · intro j hj
    rw [BitVec.getLsbD_xor, h j (by omega), BitVec.getLsbD_shiftLeft]
    simp
    intro _ _
    omega
theorem burst_end {s0 x acc : BitVec 64} {l : List UInt8} {n : Nat} (h : crcT s0 l = x ^^^ citer n acc) : ((crcT s0 l != x) == (acc != 0#64)) = true := by
  rw [h]
  by_cases e : acc = 0#64
  · subst e; rw [citer_zero]; simp
  · have hne : citer n acc ≠ 0#64 := fun hz => e (citer_nought hz)
    have : x ^^^ citer n acc ≠ x := fun hx => hne (by
      have := congrArg (fun y => x ^^^ y) hx
      simpa [← BitVec.xor_assoc] using this)
    rw [bne_iff_ne.2 this, bne_iff_ne.2 e]; rfl
end Go.Proofs.Ythfbjgdigdlliaa.Sum
