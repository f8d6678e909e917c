/- The plain law of the keyed hash: the document's sum, byte by byte, is the sum by blocks of eight. -/
import Derived.Test.YthfbjgdigdlliaaRefSipB
namespace Go.Proofs.Ythfbjgdigdlliaa.Sip
open Go.Proofs.Ythfbjgdigdlliaa.Low

def fpow : Nat → BitVec 64
  | 0 => 1#64
  | n + 1 => 256#64 * fpow n
theorem low_cons (c : UInt8) (l : List UInt8) : lowN (c :: l) = 256#64 * lowN l + zxw c := by
  rw [lowN]
  have h : 256#64 * lowN l = lowN l <<< 8 := by
    apply BitVec.eq_of_toNat_eq
    rw [BitVec.toNat_mul, BitVec.toNat_shiftLeft, Nat.shiftLeft_eq]
    simp [Nat.mul_comm]
  rw [h]
  symm
  apply BitVec.add_eq_or_of_and_eq_zero
  apply BitVec.eq_of_getLsbD_eq
  intro i hi
  unfold zxw
  simp
  intro h1 h2 _
  intro _
  exact BitVec.getLsbD_of_ge _ _ (by omega)
theorem low_snoc (l : List UInt8) (c : UInt8) : lowN (l ++ [c]) = lowN l + fpow l.length * zxw c := by
  induction l with
  | nil => rw [List.nil_append, low_cons]; simp [lowN, fpow]
  | cons x l ih =>
    rw [List.cons_append, low_cons, low_cons, ih, List.length_cons, fpow]
    rw [BitVec.mul_add, BitVec.mul_assoc, BitVec.add_assoc, BitVec.add_assoc, BitVec.add_comm (256#64 * (fpow l.length * zxw c))]
theorem low_zeros (l : List UInt8) (n : Nat) : lowN (l ++ List.replicate n 0) = lowN l := by
  induction n with
  | zero => simp
  | succ n ih =>
    rw [List.replicate_succ', ← List.append_assoc, low_snoc, ih]
    have : zxw 0 = 0#64 := rfl
    rw [this, BitVec.mul_zero, BitVec.add_zero]
theorem take_one_more (l : List UInt8) (k q r : Nat) (hk : k < l.length) (he : k = 8 * q + r) :
    (l.drop (8 * q)).take (r + 1) = (l.drop (8 * q)).take r ++ [l.getD k 0] := by
  have hlt : r < (l.drop (8 * q)).length := by rw [List.length_drop]; omega
  rw [List.take_succ_eq_append_getElem hlt]
  congr 2
  rw [List.getElem_drop, List.getD_eq_getElem?_getD, List.getElem?_eq_getElem hk]
  simp [he]
theorem rAt_eq (v : V4) (l : List UInt8) (k : Nat) (hk : k ≤ l.length) :
    rAt v l k = (vAt v l (k / 8), lowN ((l.drop (8 * (k / 8))).take (k % 8)), fpow (k % 8)) := by
  induction k with
  | zero => rfl
  | succ k ih =>
    rw [rAt, ih (by omega), refStep]
    have hlen : ((l.drop (8 * (k / 8))).take (k % 8)).length = k % 8 := by
      rw [List.length_take, List.length_drop]; omega
    have hm : lowN ((l.drop (8 * (k / 8))).take (k % 8)) + fpow (k % 8) * zxw (l.getD k 0) = lowN ((l.drop (8 * (k / 8))).take (k % 8 + 1)) := by
      rw [take_one_more l k (k / 8) (k % 8) (by omega) (by omega), low_snoc, hlen]
    split
    · rename_i h7
      rw [show (k + 1) / 8 = k / 8 + 1 by omega, show (k + 1) % 8 = 0 by omega, vAt]
      dsimp only
      rw [hm, h7]
      simp [lowN, fpow]
    · rename_i h7
      rw [show (k + 1) / 8 = k / 8 by omega, show (k + 1) % 8 = k % 8 + 1 by omega]
      dsimp only
      rw [hm]
      rfl
theorem zx_ofNat (n : Nat) : zxw (UInt8.ofNat n) = BitVec.ofNat 64 (n % 256) := by
  unfold zxw
  apply BitVec.eq_of_toNat_eq
  rw [BitVec.toNat_setWidth, BitVec.toNat_ofNat]
  simp
theorem ref_same (a b : BitVec 64) (l : List UInt8) : refP a b l = sipP a b l := by
  unfold refP sipP
  rw [rAt_eq (start a b) l l.length (Nat.le_refl _)]
  dsimp only
  congr 1
  have hr : (l.drop (8 * (l.length / 8))).length = l.length % 8 := by rw [List.length_drop]; omega
  rw [List.take_of_length_le (by omega)]
  unfold lastB
  rw [low_snoc, low_zeros, zx_ofNat, List.length_append, List.length_replicate, hr, show l.length % 8 + (7 - l.length % 8) = 7 by omega]
  rfl
end Go.Proofs.Ythfbjgdigdlliaa.Sip
