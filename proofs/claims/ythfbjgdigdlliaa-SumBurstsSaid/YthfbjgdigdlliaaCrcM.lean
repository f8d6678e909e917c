/- The checksum as plain mathematics: the shift register over bits; eight steps by the table are eight steps of the register; the document's register is the same one. -/
namespace Go.Proofs.Ythfbjgdigdlliaa.Sum
def poly : BitVec 64 := 0x95ac9329ac4bc9b5#64
def cstep (x : BitVec 64) : BitVec 64 := (x >>> 1) ^^^ (poly &&& -(x &&& 1#64))
def citer : Nat → BitVec 64 → BitVec 64
  | 0, x => x
  | n + 1, x => cstep (citer n x)
def tb (j : Nat) : BitVec 64 := citer 8 (BitVec.ofNat 64 j)
/-- a byte in front of the register -/
def zx (c : UInt8) : BitVec 64 := c.toBitVec.setWidth 64
/-- one byte by the table -/
def tstep (s : BitVec 64) (c : UInt8) : BitVec 64 := tb (s.setWidth 8 ^^^ c.toBitVec).toNat ^^^ (s >>> 8)
def crcT (s : BitVec 64) (l : List UInt8) : BitVec 64 := l.foldl tstep s
/-- one step of the document's -/
def rstep (x : BitVec 64) : BitVec 64 := if (x % 2#64 == 1#64) = true then (x >>> 1) ^^^ poly else x >>> 1
def riter : Nat → BitVec 64 → BitVec 64
  | 0, x => x
  | n + 1, x => rstep (riter n x)
def crcR (s : BitVec 64) (l : List UInt8) : BitVec 64 := l.foldl (fun s c => riter 8 (s ^^^ zx c)) s


theorem and_one (z : BitVec 64) : z &&& 1#64 = if z.getLsbD 0 then 1#64 else 0#64 := by
  apply BitVec.eq_of_getLsbD_eq
  intro i hi
  by_cases h0 : i = 0
  · subst h0; cases h : z.getLsbD 0 <;> simp_all
  · have : (1#64).getLsbD i = false := by simp [BitVec.getLsbD_one, h0]
    cases h : z.getLsbD 0 <;> simp [this, BitVec.getLsbD_and]
theorem mask (z : BitVec 64) : poly &&& -(z &&& 1#64) = if z.getLsbD 0 then poly else 0#64 := by
  rw [and_one]; cases z.getLsbD 0 <;> rfl
theorem cstep_eq (x : BitVec 64) : cstep x = (x >>> 1) ^^^ (if x.getLsbD 0 then poly else 0#64) := by unfold cstep; rw [mask]
theorem cstep_xor (x y : BitVec 64) : cstep (x ^^^ y) = cstep x ^^^ cstep y := by
  rw [cstep_eq, cstep_eq, cstep_eq, BitVec.getLsbD_xor]
  apply BitVec.eq_of_getLsbD_eq
  intro i hi
  cases x.getLsbD 0 <;> cases y.getLsbD 0 <;> simp
  all_goals (generalize x.getLsbD (1 + i) = a; generalize y.getLsbD (1 + i) = b; generalize poly.getLsbD i = c; cases a <;> cases b <;> cases c <;> rfl)
theorem citer_xor (n : Nat) (x y : BitVec 64) : citer n (x ^^^ y) = citer n x ^^^ citer n y := by
  induction n with
  | zero => rfl
  | succ n ih => simp only [citer, ih, cstep_xor]
theorem citer_zero (n : Nat) : citer n 0#64 = 0#64 := by
  induction n with
  | zero => rfl
  | succ n ih => simp only [citer, ih]; rfl
/-- a register whose low n bits are nought is only moved -/
theorem citer_high (n : Nat) : ∀ (x : BitVec 64), (∀ i, i < n → x.getLsbD i = false) → citer n x = x >>> n := by
  induction n with
  | zero => intro x _; simp [citer]
  | succ n ih =>
    intro x h
    rw [citer, ih x (fun i hi => h i (by omega)), cstep_eq]
    have h0 : (x >>> n).getLsbD 0 = false := by simp; exact h n (by omega)
    rw [h0]
    simp [BitVec.shiftRight_add]
theorem split8 (x : BitVec 64) : x = ((x >>> 8) <<< 8) ^^^ (x.setWidth 8).setWidth 64 := by
  apply BitVec.eq_of_getLsbD_eq
  intro i hi
  simp
  by_cases h : i < 8
  · simp [h, hi]
  · simp [h, hi, show 8 + (i - 8) = i by omega]
theorem tb_eq (b : BitVec 8) : tb b.toNat = citer 8 (b.setWidth 64) := by
  unfold tb
  congr 1
  apply BitVec.eq_of_toNat_eq
  simp
theorem tstep_eq (s : BitVec 64) (c : UInt8) : tstep s c = citer 8 (s ^^^ zx c) := by
  unfold tstep
  rw [tb_eq]
  have hx : (s.setWidth 8 ^^^ c.toBitVec).setWidth 64 = (s.setWidth 8).setWidth 64 ^^^ zx c := by
    unfold zx
    apply BitVec.eq_of_getLsbD_eq
    intro i hi
    simp
  rw [hx, citer_xor]
  have hs : citer 8 s = (s >>> 8) ^^^ citer 8 ((s.setWidth 8).setWidth 64) := by
    conv => lhs; rw [split8 s]
    rw [citer_xor, citer_high 8 ((s >>> 8) <<< 8) (by intro i hi; simp [hi])]
    congr 1
    apply BitVec.eq_of_getLsbD_eq
    intro i hi
    simp
    intro h
    exact BitVec.lt_of_getLsbD h
  rw [citer_xor, hs, BitVec.xor_comm (s >>> 8), BitVec.xor_assoc, BitVec.xor_assoc, BitVec.xor_comm (s >>> 8)]
theorem rstep_eq (x : BitVec 64) : rstep x = cstep x := by
  rw [cstep_eq]; unfold rstep
  have : (x % 2#64 == 1#64) = x.getLsbD 0 := by
    rw [Bool.eq_iff_iff, beq_iff_eq, BitVec.getLsbD, Nat.testBit_zero, decide_eq_true_eq, BitVec.toNat_eq, BitVec.toNat_umod]
    simp
  rw [this]
  cases x.getLsbD 0 <;> simp
theorem riter_eq (n : Nat) (x : BitVec 64) : riter n x = citer n x := by
  induction n with
  | zero => rfl
  | succ n ih => simp only [riter, citer, ih, rstep_eq]
theorem crc_same (s : BitVec 64) (l : List UInt8) : crcT s l = crcR s l := by
  unfold crcT crcR
  induction l generalizing s with
  | nil => rfl
  | cons c l ih => simp only [List.foldl_cons, riter_eq, tstep_eq]; rw [← tstep_eq]; simp only [riter_eq] at ih; exact ih _
end Go.Proofs.Ythfbjgdigdlliaa.Sum
