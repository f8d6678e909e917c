import Derived.WalkKit
import Derived.Test.YtpnmhldaaaemeaaGreatProg
import Derived.KernelRfl
import Derived.Deep.Draws
import Derived.Lib.Hide
import Derived.Deep.WholeRow
import Derived.Test.YtpnmhldaaaemeaaGreatMa13
import Derived.Test.YtpnmhldaaaemeaaGreatMa15
import Derived.Lib.SlBytesConst
import Derived.Laws.IdiomStrings
import Derived.Lib.SmallJoins
import Derived.Test.YtpnmhldaaaemeaaGreatMa12
import Derived.ArgAppend
/- Laws of a uint64 seen as a row of 64 bits: U x is the value whose number is x; each operation of the program on such values is the operation on bits. Over any program. -/
namespace Go.Proofs.YtpnmhldaaaemeaaGreat.Uw
open Go

/-- a uint64 as bits -/
def U (x : BitVec 64) : Value := .int .u64 (x.toNat : Int)
/-- a byte as bits -/
def B (x : BitVec 8) : Value := .int .u8 (x.toNat : Int)

theorem ofU (x : BitVec 64) : BitVec.ofInt 64 (x.toNat : Int) = x := by
  rw [BitVec.ofInt_natCast]; apply BitVec.eq_of_toNat_eq; simp
theorem ofB (x : BitVec 8) : BitVec.ofInt 8 (x.toNat : Int) = x := by
  rw [BitVec.ofInt_natCast]; apply BitVec.eq_of_toNat_eq; simp
theorem wrapU (x : BitVec 64) : IntKind.u64.wrap (x.toNat : Int) = x.toNat := by
  rw [IntKind.wrap_u64]; have := x.isLt; omega
theorem wrapB (x : BitVec 8) : IntKind.u8.wrap (x.toNat : Int) = x.toNat := by
  rw [IntKind.wrap_u8']; have := x.isLt; omega
theorem wrapInt (n : Int) : IntKind.u64.wrap n = ((BitVec.ofInt 64 n).toNat : Int) := by
  rw [IntKind.wrap_u64, BitVec.toNat_ofInt]
  have := Int.emod_nonneg n (b := 18446744073709551616) (by decide)
  simp only [Nat.reducePow]
  omega
theorem U_lit (n : Nat) (h : n < 18446744073709551616) : Value.int .u64 (n : Int) = U (BitVec.ofNat 64 n) := by
  unfold U; rw [BitVec.toNat_ofNat, Nat.mod_eq_of_lt (by omega)]
theorem U_int (n : Int) (h : 0 ≤ n ∧ n < 18446744073709551616) : Value.int .u64 n = U (BitVec.ofInt 64 n) := by
  unfold U
  rw [BitVec.toNat_ofInt]
  simp only [Nat.reducePow]
  have : (n % (18446744073709551616 : Nat)).toNat = n := by omega
  rw [this]
theorem B_byte (c : UInt8) : Value.int .u8 (c.toNat : Int) = B c.toBitVec := rfl
theorem U_inj {x y : BitVec 64} (h : U x = U y) : x = y := by
  unfold U at h; injection h with _ h; exact BitVec.eq_of_toNat_eq (by omega)

section
variable (P : Program) (t : TypeId) (w : World)
theorem xor_run (k : IntKind) (a b : Int) : (binOp .xor t (.int k a) (.int k b)).run P w = .ok (.int k (k.wrap (BitVec.ofInt k.bits a ^^^ BitVec.ofInt k.bits b).toNat)) w := by
  simp [binOp, Op.intBits]
theorem and_run (k : IntKind) (a b : Int) : (binOp .and t (.int k a) (.int k b)).run P w = .ok (.int k (k.wrap (BitVec.ofInt k.bits a &&& BitVec.ofInt k.bits b).toNat)) w := by
  simp [binOp, Op.intBits]
theorem or_run (k : IntKind) (a b : Int) : (binOp .or t (.int k a) (.int k b)).run P w = .ok (.int k (k.wrap (BitVec.ofInt k.bits a ||| BitVec.ofInt k.bits b).toNat)) w := by
  simp [binOp, Op.intBits]
theorem add_run (k : IntKind) (a b : Int) : (binOp .add t (.int k a) (.int k b)).run P w = .ok (.int k (k.wrap (a + b))) w := by
  simp [binOp, Op.intArith]
theorem mul_run (k : IntKind) (a b : Int) : (binOp .mul t (.int k a) (.int k b)).run P w = .ok (.int k (k.wrap (a * b))) w := by
  simp [binOp, Op.intArith]
theorem shr_run (k j : IntKind) (a b : Int) (h : ¬ b < 0) : (binOp .shr t (.int k a) (.int j b)).run P w = .ok (.int k (a.fdiv (2 ^ (min b.toNat k.bits)))) w := by
  simp [binOp, Op.shift, h]
theorem shl_run (k j : IntKind) (a b : Int) (h : ¬ b < 0) : (binOp .shl t (.int k a) (.int j b)).run P w = .ok (.int k (k.wrap (a * 2 ^ (min b.toNat k.bits)))) w := by
  simp [binOp, Op.shift, h]

theorem run_xor (a b : BitVec 64) : (binOp .xor t (U a) (U b)).run P w = .ok (U (a ^^^ b)) w := by
  unfold U; rw [xor_run]; show Result.ok (Value.int .u64 (IntKind.u64.wrap ((BitVec.ofInt 64 (a.toNat : Int) ^^^ BitVec.ofInt 64 (b.toNat : Int)).toNat : Int))) w = _; rw [ofU, ofU, wrapU]
theorem run_xorB (a b : BitVec 8) : (binOp .xor t (B a) (B b)).run P w = .ok (B (a ^^^ b)) w := by
  unfold B; rw [xor_run]; show Result.ok (Value.int .u8 (IntKind.u8.wrap ((BitVec.ofInt 8 (a.toNat : Int) ^^^ BitVec.ofInt 8 (b.toNat : Int)).toNat : Int))) w = _; rw [ofB, ofB, wrapB]
theorem run_xorBc (a : BitVec 8) (c : UInt8) : (binOp .xor t (B a) (.int .u8 (c.toNat : Int))).run P w = .ok (B (a ^^^ c.toBitVec)) w := run_xorB P t w a c.toBitVec
theorem run_and (a b : BitVec 64) : (binOp .and t (U a) (U b)).run P w = .ok (U (a &&& b)) w := by
  unfold U; rw [and_run]; show Result.ok (Value.int .u64 (IntKind.u64.wrap ((BitVec.ofInt 64 (a.toNat : Int) &&& BitVec.ofInt 64 (b.toNat : Int)).toNat : Int))) w = _; rw [ofU, ofU, wrapU]
theorem run_or (a b : BitVec 64) : (binOp .or t (U a) (U b)).run P w = .ok (U (a ||| b)) w := by
  unfold U; rw [or_run]; show Result.ok (Value.int .u64 (IntKind.u64.wrap ((BitVec.ofInt 64 (a.toNat : Int) ||| BitVec.ofInt 64 (b.toNat : Int)).toNat : Int))) w = _; rw [ofU, ofU, wrapU]
theorem run_add (a b : BitVec 64) : (binOp .add t (U a) (U b)).run P w = .ok (U (a + b)) w := by
  unfold U; rw [add_run, IntKind.wrap_u64, BitVec.toNat_add]
  simp only [Nat.reducePow]
  have e : ((a.toNat : Int) + b.toNat) % 18446744073709551616 = (((a.toNat + b.toNat) % 18446744073709551616 : Nat) : Int) := by omega
  rw [e]
theorem run_mul (a b : BitVec 64) : (binOp .mul t (U a) (U b)).run P w = .ok (U (a * b)) w := by
  unfold U; rw [mul_run, IntKind.wrap_u64, BitVec.toNat_mul]
  simp only [Nat.reducePow]
  rw [Int.natCast_emod, Int.natCast_mul]; rfl
theorem run_neg (a : BitVec 64) : (Op.unary .neg (U a)).run P w = .ok (U (-a)) w := by
  have h : (Op.unary .neg (U a)).run P w = .ok (.int .u64 (IntKind.u64.wrap (0 - (a.toNat : Int)))) w := by simp [U, Op.unary, Op.intArith]
  rw [h, IntKind.wrap_u64]; unfold U; rw [BitVec.toNat_neg]
  simp only [Nat.reducePow]
  have := a.isLt
  have e : (0 - (a.toNat : Int)) % 18446744073709551616 = (((18446744073709551616 - a.toNat) % 18446744073709551616 : Nat) : Int) := by omega
  rw [e]
theorem run_shr (k : Nat) (j : IntKind) (a : BitVec 64) (hk : k ≤ 64) : (binOp .shr t (U a) (.int j (k : Int))).run P w = .ok (U (a >>> k)) w := by
  unfold U
  rw [shr_run P t w .u64 j _ _ (by omega), BitVec.toNat_ushiftRight, Nat.shiftRight_eq_div_pow]
  have e : min ((k : Int).toNat) IntKind.u64.bits = k := by simp [IntKind.bits]; omega
  rw [e]
  have : ((a.toNat : Int).fdiv (2 ^ k)) = ((a.toNat / 2 ^ k : Nat) : Int) := by
    rw [Int.fdiv_eq_ediv_of_nonneg _ (by exact Int.le_of_lt (Int.pow_pos (by decide)))]
    simp
  rw [this]
theorem run_shl (k : Nat) (j : IntKind) (a : BitVec 64) (hk : k ≤ 64) : (binOp .shl t (U a) (.int j (k : Int))).run P w = .ok (U (a <<< k)) w := by
  unfold U
  rw [shl_run P t w .u64 j _ _ (by omega), IntKind.wrap_u64, BitVec.toNat_shiftLeft, Nat.shiftLeft_eq]
  have e : min ((k : Int).toNat) IntKind.u64.bits = k := by simp [IntKind.bits]; omega
  rw [e]
  simp only [Nat.reducePow]
  have : ((a.toNat : Int) * 2 ^ k) % 18446744073709551616 = (((a.toNat * 2 ^ k) % 18446744073709551616 : Nat) : Int) := by
    rw [Int.natCast_emod, Int.natCast_mul, Int.natCast_pow]; rfl
  rw [this]
theorem run_eql (a b : BitVec 64) : (binOp .eql t (U a) (U b)).run P w = .ok (.bool (a == b)) w := by
  have h : (binOp .eql t (U a) (U b)).run P w = .ok (.bool ((a.toNat : Int) == (b.toNat : Int))) w := by simp [U, binOp, Op.intCmp]
  rw [h]
  have : ((a.toNat : Int) == (b.toNat : Int)) = (a == b) := by
    rw [Bool.eq_iff_iff, beq_iff_eq, beq_iff_eq, BitVec.toNat_eq]; omega
  rw [this]
theorem run_neq (a b : BitVec 64) : (binOp .neq t (U a) (U b)).run P w = .ok (.bool (a != b)) w := by
  have h : (binOp .neq t (U a) (U b)).run P w = .ok (.bool ((a.toNat : Int) != (b.toNat : Int))) w := by simp [U, binOp, Op.intCmp]
  rw [h]
  have : ((a.toNat : Int) != (b.toNat : Int)) = (a != b) := by
    rw [Bool.eq_iff_iff, bne_iff_ne, bne_iff_ne, Ne, Ne, BitVec.toNat_eq]; omega
  rw [this]
theorem run_toByte {s d : TypeId} {ds : TypeDesc} (hs : P.underlying s = some ds) (hd : P.underlying d = some (.int .u8)) (a : BitVec 64) :
    (convert s d (U a)).run P w = .ok (B (a.setWidth 8)) w := by
  have h : (convert s d (U a)).run P w = .ok (.int .u8 (IntKind.u8.wrap (a.toNat : Int))) w := by
    simp [U, convert, run_underlying hs, run_underlying hd, Conv.intToInt]
  rw [h]; unfold B; rw [IntKind.wrap_u8', BitVec.toNat_setWidth]
  simp only [Nat.reducePow]
  have : ((a.toNat : Int) % 256) = ((a.toNat % 256 : Nat) : Int) := by omega
  rw [this]
theorem run_ofByte {s d : TypeId} {ds : TypeDesc} (hs : P.underlying s = some ds) (hd : P.underlying d = some (.int .u64)) (c : UInt8) :
    (convert s d (.int .u8 (c.toNat : Int))).run P w = .ok (U (c.toBitVec.setWidth 64)) w := by
  have h : (convert s d (.int .u8 (c.toNat : Int))).run P w = .ok (.int .u64 (IntKind.u64.wrap (c.toNat : Int))) w := by
    simp [convert, run_underlying hs, run_underlying hd, Conv.intToInt]
  rw [h]; unfold U; rw [IntKind.wrap_u64, BitVec.toNat_setWidth]
  simp only [Nat.reducePow, UInt8.toNat_toBitVec]
  have : c.toNat < 256 := c.toNat_lt
  have : ((c.toNat : Int) % 18446744073709551616) = ((c.toNat % 18446744073709551616 : Nat) : Int) := by omega
  rw [this]
theorem run_ofInt {s d : TypeId} {ds : TypeDesc} (hs : P.underlying s = some ds) (hd : P.underlying d = some (.int .u64)) (k : IntKind) (n : Int) :
    (convert s d (.int k n)).run P w = .ok (U (BitVec.ofInt 64 n)) w := by
  have h : (convert s d (.int k n)).run P w = .ok (.int .u64 (IntKind.u64.wrap n)) w := by
    simp [convert, run_underlying hs, run_underlying hd, Conv.intToInt]
  rw [h, wrapInt]; rfl
end

section
variable (P : Program) (w : World) (a : Addr) (m : Mode)
theorem run_store_U (x : BitVec 64) : (store a (U x) m).run P w = stored P w a (U x) m := run_store P w a _ m rfl
theorem cells_U (x : BitVec 64) : (U x).cells = #[U x] := rfl
theorem cells_B (x : BitVec 8) : (B x).cells = #[B x] := rfl
end
theorem eqGuard_U (P : Program) (w : World) (op : BinOp) (t : TypeId) (x y : Operand) (a : BitVec 64) (b : Value) : (eqGuard op t x y (U a) b).run P w = .ok () w := by
  unfold U eqGuard
  cases op <;> rfl
/-- the cells of such a value, as the walk opens them -/
@[go_sem] theorem match_U (x : BitVec 64) : Value.cells.match_1 (fun _ => Array Value) (U x) (fun cs => cs) (fun v => #[v]) = #[U x] := rfl
@[go_sem] theorem match_B (x : BitVec 8) : Value.cells.match_1 (fun _ => Array Value) (B x) (fun cs => cs) (fun v => #[v]) = #[B x] := rfl
theorem asIntOf_B (P : Program) (w : World) (x : BitVec 8) : (asIntOf (B x)).run P w = .ok (.u8, (x.toNat : Int)) w := rfl
theorem asIntOf_U (P : Program) (w : World) (x : BitVec 64) : (asIntOf (U x)).run P w = .ok (.u64, (x.toNat : Int)) w := rfl
end Go.Proofs.YtpnmhldaaaemeaaGreat.Uw
/- The checksum as plain mathematics: the shift register over bits; eight steps by the table are eight steps of the register; the document's register is the same one. -/
namespace Go.Proofs.YtpnmhldaaaemeaaGreat.Sum
def poly : BitVec 64 := 0x95ac9329ac4bc9b5#64
def cstep (x : BitVec 64) : BitVec 64 := (x >>> 1) ^^^ (poly &&& -(x &&& 1#64))
def citer : Nat → BitVec 64 → BitVec 64
  | 0, x => x
  | n + 1, x => cstep (citer n x)
def tb (j : Nat) : BitVec 64 := citer 8 (BitVec.ofNat 64 j)
/-- a byte in front of the register -/
def zx (c : UInt8) : BitVec 64 := c.toBitVec.setWidth 64
/-- one byte by the table -/
def tstep (s : BitVec 64) (c : UInt8) : BitVec 64 := tb (s.setWidth 8 ^^^ c.toBitVec).toNat ^^^ (s >>> 8)
def crcT (s : BitVec 64) (l : List UInt8) : BitVec 64 := l.foldl tstep s
/-- one step of the document's -/
def rstep (x : BitVec 64) : BitVec 64 := if (x % 2#64 == 1#64) = true then (x >>> 1) ^^^ poly else x >>> 1
def riter : Nat → BitVec 64 → BitVec 64
  | 0, x => x
  | n + 1, x => rstep (riter n x)
def crcR (s : BitVec 64) (l : List UInt8) : BitVec 64 := l.foldl (fun s c => riter 8 (s ^^^ zx c)) s


theorem and_one (z : BitVec 64) : z &&& 1#64 = if z.getLsbD 0 then 1#64 else 0#64 := by
  apply BitVec.eq_of_getLsbD_eq
  intro i hi
  by_cases h0 : i = 0
  · subst h0; cases h : z.getLsbD 0 <;> simp_all
  · have : (1#64).getLsbD i = false := by simp [BitVec.getLsbD_one, h0]
    cases h : z.getLsbD 0 <;> simp [this, BitVec.getLsbD_and]
theorem mask (z : BitVec 64) : poly &&& -(z &&& 1#64) = if z.getLsbD 0 then poly else 0#64 := by
  rw [and_one]; cases z.getLsbD 0 <;> rfl
theorem cstep_eq (x : BitVec 64) : cstep x = (x >>> 1) ^^^ (if x.getLsbD 0 then poly else 0#64) := by unfold cstep; rw [mask]
theorem cstep_xor (x y : BitVec 64) : cstep (x ^^^ y) = cstep x ^^^ cstep y := by
  rw [cstep_eq, cstep_eq, cstep_eq, BitVec.getLsbD_xor]
  apply BitVec.eq_of_getLsbD_eq
  intro i hi
  cases x.getLsbD 0 <;> cases y.getLsbD 0 <;> simp
  all_goals (generalize x.getLsbD (1 + i) = a; generalize y.getLsbD (1 + i) = b; generalize poly.getLsbD i = c; cases a <;> cases b <;> cases c <;> rfl)
theorem citer_xor (n : Nat) (x y : BitVec 64) : citer n (x ^^^ y) = citer n x ^^^ citer n y := by
  induction n with
  | zero => rfl
  | succ n ih => simp only [citer, ih, cstep_xor]
theorem citer_zero (n : Nat) : citer n 0#64 = 0#64 := by
  induction n with
  | zero => rfl
  | succ n ih => simp only [citer, ih]; rfl
/-- a register whose low n bits are nought is only moved -/
theorem citer_high (n : Nat) : ∀ (x : BitVec 64), (∀ i, i < n → x.getLsbD i = false) → citer n x = x >>> n := by
  induction n with
  | zero => intro x _; simp [citer]
  | succ n ih =>
    intro x h
    rw [citer, ih x (fun i hi => h i (by omega)), cstep_eq]
    have h0 : (x >>> n).getLsbD 0 = false := by simp; exact h n (by omega)
    rw [h0]
    simp [BitVec.shiftRight_add]
theorem split8 (x : BitVec 64) : x = ((x >>> 8) <<< 8) ^^^ (x.setWidth 8).setWidth 64 := by
  apply BitVec.eq_of_getLsbD_eq
  intro i hi
  simp
  by_cases h : i < 8
  · simp [h, hi]
  · simp [h, hi, show 8 + (i - 8) = i by omega]
theorem tb_eq (b : BitVec 8) : tb b.toNat = citer 8 (b.setWidth 64) := by
  unfold tb
  congr 1
  apply BitVec.eq_of_toNat_eq
  simp
theorem tstep_eq (s : BitVec 64) (c : UInt8) : tstep s c = citer 8 (s ^^^ zx c) := by
  unfold tstep
  rw [tb_eq]
  have hx : (s.setWidth 8 ^^^ c.toBitVec).setWidth 64 = (s.setWidth 8).setWidth 64 ^^^ zx c := by
    unfold zx
    apply BitVec.eq_of_getLsbD_eq
    intro i hi
    simp
  rw [hx, citer_xor]
  have hs : citer 8 s = (s >>> 8) ^^^ citer 8 ((s.setWidth 8).setWidth 64) := by
    conv => lhs; rw [split8 s]
    rw [citer_xor, citer_high 8 ((s >>> 8) <<< 8) (by intro i hi; simp [hi])]
    congr 1
    apply BitVec.eq_of_getLsbD_eq
    intro i hi
    simp
    intro h
    exact BitVec.lt_of_getLsbD h
  rw [citer_xor, hs, BitVec.xor_comm (s >>> 8), BitVec.xor_assoc, BitVec.xor_assoc, BitVec.xor_comm (s >>> 8)]
theorem rstep_eq (x : BitVec 64) : rstep x = cstep x := by
  rw [cstep_eq]; unfold rstep
  have : (x % 2#64 == 1#64) = x.getLsbD 0 := by
    rw [Bool.eq_iff_iff, beq_iff_eq, BitVec.getLsbD, Nat.testBit_zero, decide_eq_true_eq, BitVec.toNat_eq, BitVec.toNat_umod]
    simp
  rw [this]
  cases x.getLsbD 0 <;> simp
theorem riter_eq (n : Nat) (x : BitVec 64) : riter n x = citer n x := by
  induction n with
  | zero => rfl
  | succ n ih => simp only [riter, citer, ih, rstep_eq]
theorem crc_same (s : BitVec 64) (l : List UInt8) : crcT s l = crcR s l := by
  unfold crcT crcR
  induction l generalizing s with
  | nil => rfl
  | cons c l ih => simp only [List.foldl_cons, riter_eq, tstep_eq]; rw [← tstep_eq]; simp only [riter_eq] at ih; exact ih _
end Go.Proofs.YtpnmhldaaaemeaaGreat.Sum
/- The walk of sum.table: the array holds, at each byte, eight steps of the shift register. -/
namespace Go.Proofs.YtpnmhldaaaemeaaGreat.Sum
open Go.RowKit Go.Proofs.YtpnmhldaaaemeaaGreat.Uw

def zeros : Array Value := Array.replicate 256 (.int .u64 0)

theorem zero_row (w : World) : (zeroValue 125).run Tryz.prog w = .ok (.agg zeros) w := by kernel_rfl
theorem zeros_size : zeros.size = 256 := by unfold zeros; exact Array.size_replicate

section
variable (P : Program) (t : TypeId) (w : World)
theorem shr1 (a : BitVec 64) : (binOp .shr t (U a) (.int .u64 1)).run P w = .ok (U (a >>> 1)) w := run_shr P t w 1 .u64 a (by decide)
theorem shr8 (a : BitVec 64) : (binOp .shr t (U a) (.int .u64 8)).run P w = .ok (U (a >>> 8)) w := run_shr P t w 8 .u64 a (by decide)
theorem and1 (a : BitVec 64) : (binOp .and t (U a) (.int .u64 1)).run P w = .ok (U (a &&& 1#64)) w := run_and P t w a 1#64
theorem andPoly (a : BitVec 64) : (binOp .and t (.int .u64 10785157014839085493) (U a)).run P w = .ok (U (poly &&& a)) w := run_and P t w poly a
end
attribute [local go_sem high] shr1 and1 andPoly run_xor run_neg run_store_U cells_U zero_row

theorem ofInt_nat (k : Nat) : BitVec.ofInt 64 (k : Int) = BitVec.ofNat 64 k := by rw [BitVec.ofInt_natCast]
theorem conv_int (w : World) (k : Nat) : (convert 3 38 (.int .i64 (k : Int))).run Tryz.prog w = .ok (U (BitVec.ofNat 64 k)) w := by
  rw [run_ofInt Tryz.prog w Tryz.underlying3 Tryz.underlying38, ofInt_nat]


theorem all_one (C : Array Value) (h : C.all (·.oneCell') = true) : C.all (·.oneCell') = true := h
def One (C : Array Value) : Prop := C.size = 256 ∧ C.all (·.oneCell') = true
theorem info_row : (Tryz.prog.info? 125).map (·.size) = some 256 := by kernel_rfl


theorem One.set {C : Array Value} (h : One C) (k : Nat) (x : BitVec 64) : One (C.setIfInBounds k (U x)) := by
  obtain ⟨h1, h2⟩ := h
  refine ⟨by simpa using h1, ?_⟩
  rw [Array.all_eq_true_iff_forall_mem] at h2 ⊢
  intro v hv
  rcases Array.mem_or_eq_of_mem_setIfInBounds hv with h | rfl
  · exact h2 v h
  · rfl
theorem Tab.set {C : Array Value} {k : Nat} (hs : One C) (hk : k < 256) (h : ∀ j, j < k → C[j]? = some (U (tb j))) (x : BitVec 64) (hx : x = tb k) :
    ∀ j, j < k + 1 → (C.setIfInBounds k (U x))[j]? = some (U (tb j)) := by
  intro j hj
  subst hx
  rw [Array.getElem?_setIfInBounds]
  by_cases e : k = j
  · subst e; rw [if_pos rfl, if_pos (by rw [hs.1]; exact hk)]
  · rw [if_neg e]; exact h j (by omega)

/-- what the array of the sums holds -/
def IsTab (C : Array Value) : Prop := One C ∧ ∀ j, j < 256 → C[j]? = some (U (tb j))

set_option maxHeartbeats 400000 in
set_option maxRecDepth 100000 in
theorem table_any (w : World) : Calls Tryz.prog 99 #[] w fun e w' => ∃ C, IsTab C ∧ e = .returned (.agg C) ∧ w' = w.alloc (.cells C 125) := by
  have hcv := conv_int
  go_enter Tryz.func99, Tryz.ntmps99
  go_wp2
  go_loopw [3] (fun v wr => ∃ (k : Nat) (C : Array Value), k ≤ 256 ∧ v = .int .i64 k ∧ Hid (One C) ∧ (∀ j, j < k → C[j]? = some (U (tb j))) ∧ wr = w.alloc (.cells C 125)) (fun v _ => 256 - (intOf v).toNat)
  case atStart => exact ⟨0, zeros, by omega, rfl, Lib.hid ⟨zeros_size, by kernel_rfl⟩, fun j h => absurd h (by omega), rfl⟩
  case round =>
    obtain ⟨k, C, hk, rfl, hC, hval, rfl⟩ := hrel
    have Hval := Lib.hid hval
    clear hval
    by_cases hlt : k < 256
    · obtain ⟨x0, hx0⟩ : ∃ x, C[k]? = some x := ⟨_, Array.getElem?_eq_getElem (by rw [hC.out.1]; exact hlt)⟩
      go_wp2
      go_loop [2, 8] (fun c v => ∃ m : Nat, m ≤ 8 ∧ v = .int .i64 m ∧ c = U (citer m (BitVec.ofNat 64 k))) (fun _ v => 8 - (intOf v).toNat)
      case atStart => exact ⟨0, by omega, rfl, rfl⟩
      case round =>
        obtain ⟨m, hm, rfl, rfl⟩ := hrel
        go_wp2
        · exact ⟨⟨m + 1, by omega, by go_num, rfl⟩, by simp [intOf]; omega⟩
        · have e : m = 8 := by omega
          subst e
          refine ⟨⟨k + 1, _, by omega, by go_num, Lib.hid (hC.out.set k _), Tab.set hC.out hlt Hval.out _ rfl, rfl⟩, by simp [intOf]; omega⟩
    · have e : k = 256 := by omega
      subst e
      go_wp2_with (first | (refine wpList_load_row rfl 125 (.tmp 0) rfl w.heap.size rfl 125 C (0, 0) _ (heap_alloc_new w _) Tryz.underlying125 rfl (by rw [hC.out.1]; exact info_row) ?_) | (refine wpList_store_row rfl 125 (.tmp 0) (.tmp 22) rfl w.heap.size C rfl rfl 125 C (heap_alloc_new w _) (by rw [hC.out.1]; exact info_row) rfl hC.out.2 ?_))
      rw [World.setRow_alloc_new]
      refine bodyPost_ret (v := .agg C) (results_cell_row rfl _ _ w.heap.size 125 C (0, 0) _ rfl (heap_alloc_new w _) Tryz.underlying125 rfl (by rw [hC.out.1]; exact info_row)) rfl ⟨C, ⟨hC.out, Hval.out⟩, rfl, rfl⟩
end Go.Proofs.YtpnmhldaaaemeaaGreat.Sum
/- The walks of sum.More, sum.CRC64 and of the document's two: both are the shift register over the bytes. -/
namespace Go.Proofs.YtpnmhldaaaemeaaGreat.Sum
open Go.RowKit Go.Proofs.YtpnmhldaaaemeaaGreat.Uw

theorem take_snoc (s : ByteArray) (k : Nat) (h : k < s.size) : s.data.toList.take (k + 1) = s.data.toList.take k ++ [s[k]] := by
  rw [List.take_succ_eq_append_getElem (by simpa using h)]; rfl
theorem crcT_snoc (s : BitVec 64) (l : List UInt8) (c : UInt8) : crcT s (l ++ [c]) = tstep (crcT s l) c := by simp [crcT]
theorem crcR_snoc (s : BitVec 64) (l : List UInt8) (c : UInt8) : crcR s (l ++ [c]) = riter 8 (crcR s l ^^^ zx c) := by simp [crcR]
theorem take_all (s : ByteArray) : s.data.toList.take s.size = s.data.toList := List.take_of_length_le (by simp)

section
variable (P : Program) (t : TypeId) (w : World)
theorem rem2 (a : BitVec 64) : (binOp .rem t (U a) (.int .u64 2)).run P w = .ok (U (a % 2#64)) w := by
  have h : (binOp .rem t (U a) (.int .u64 2)).run P w = .ok (.int .u64 ((a.toNat : Int).tmod 2)) w := by simp [U, binOp, Op.intDiv]
  rw [h]; unfold U
  have e : ((a.toNat : Int).tmod 2) = ((a % 2#64).toNat : Int) := by
    rw [BitVec.toNat_umod, Int.tmod_eq_emod_of_nonneg (by omega)]; simp
  rw [e]
theorem quo2 (a : BitVec 64) : (binOp .quo t (U a) (.int .u64 2)).run P w = .ok (U (a >>> 1)) w := by
  have h : (binOp .quo t (U a) (.int .u64 2)).run P w = .ok (.int .u64 (IntKind.u64.wrap ((a.toNat : Int).tdiv 2))) w := by simp [U, binOp, Op.intDiv]
  rw [h]; unfold U
  have e : IntKind.u64.wrap ((a.toNat : Int).tdiv 2) = ((a >>> 1).toNat : Int) := by
    rw [BitVec.toNat_ushiftRight, Nat.shiftRight_eq_div_pow, Int.tdiv_eq_ediv_of_nonneg (by omega), IntKind.wrap_u64]
    have := a.isLt
    omega
  rw [e]
theorem eq1 (a : BitVec 64) : (binOp .eql t (U a) (.int .u64 1)).run P w = .ok (.bool (a == 1#64)) w := run_eql P t w a 1#64
theorem xorPoly (a : BitVec 64) : (binOp .xor t (U a) (.int .u64 10785157014839085493)).run P w = .ok (U (a ^^^ poly)) w := run_xor P t w a poly
end
theorem to_byte (w : World) (a : BitVec 64) : (convert 38 5 (U a)).run Tryz.prog w = .ok (B (a.setWidth 8)) w :=
  run_toByte Tryz.prog w Tryz.underlying38 Tryz.underlying5 a
theorem of_byte (w : World) (c : UInt8) : (convert 5 38 (.int .u8 (c.toNat : Int))).run Tryz.prog w = .ok (U (zx c)) w :=
  run_ofByte Tryz.prog w Tryz.underlying5 Tryz.underlying38 c
/-- a byte's number, closed to the walk -/
def nB (x : BitVec 8) : Nat := x.toNat
theorem idx_row (w : World) (g : Nat) (x : BitVec 8) : (Instr.indexAt 125 (.pointer (some ⟨g, 0, none⟩)) (B x)).run Tryz.prog w = .ok (.pointer (some ⟨g, nB x, none⟩)) w := by
  unfold nB
  have hx : x.toNat < 256 := x.isLt
  have ha : (⟨g, 0, none⟩ : Addr).add x.toNat = ⟨g, x.toNat, none⟩ := by unfold Addr.add; split <;> simp_all
  unfold Instr.indexAt
  simp [asIntOf_B, run_underlying Tryz.underlying125, Instr.sureAddr, ha]
  omega

attribute [local go_sem high] shr8 run_xor run_xorB run_xorBc to_byte of_byte idx_row rem2 quo2 eq1 xorPoly eqGuard_U

theorem IsTab.at_ {C : Array Value} (h : IsTab C) (x : BitVec 8) : C[nB x]? = some (U (tb x.toNat)) := h.2 _ x.isLt


theorem setRow2 (w : World) (o : Obj) (c c' : Array Value) (t : TypeId) : ((w.alloc o).alloc (.cells c t)).setRow (w.heap.size + 1) c' = (w.alloc o).alloc (.cells c' t) := by
  have h := World.setRow_alloc_new (w.alloc o) c c' t
  simpa using h

set_option maxHeartbeats 400000 in
set_option maxRecDepth 100000 in
theorem more_any (s : BitVec 64) (b : ByteArray) (w : World) (hs : b.size ≤ maxLen) :
    Calls Tryz.prog 71 #[U s, .string b] w fun e w' => e = .returned (U (crcT s b.data.toList)) ∧ Below w.heap.size w w' := by
  unfold maxLen at hs
  go_enter Tryz.func71, Tryz.ntmps71
  go_wp2_with fail
  refine (table_any _).mono ?_
  rintro e w' ⟨C, hC, rfl, rfl⟩
  have hz := zero_row
  go_wp2_with (refine wpList_store_row rfl 125 (.tmp 5) (.tmp 7) rfl (w.alloc (.cells C 125)).heap.size C (by simp [Act.eval]) rfl 125 zeros (heap_alloc_new _ _) (by rw [hC.1.1]; exact info_row) (by rw [hC.1.1]; exact zeros_size) hC.1.2 ?_)
  rw [setRow2]
  have hat := hC.at_
  go_loop [0, 10] (fun v i => ∃ k : Nat, k ≤ b.size ∧ i = .int .i64 k ∧ v = U (crcT s (b.data.toList.take k))) (fun _ i => b.size - (intOf i).toNat)
  case atStart => exact ⟨0, by omega, rfl, rfl⟩
  case round =>
    obtain ⟨k, hk, rfl, rfl⟩ := hrel
    by_cases hlt : k < b.size
    · have HS := Lib.hid (take_snoc b k hlt)
      have HC := Lib.hid (crcT_snoc s (b.data.toList.take k) b[k])
      go_wp2
      exact ⟨⟨k + 1, by omega, by go_num, by rw [HS.out, HC.out]; rfl⟩, by simp [intOf]; omega⟩
    · have e : k = b.size := by omega
      subst e
      have HT := Lib.hid (take_all b)
      go_wp2
      go_ret
      exact ⟨by first | rfl | (rw [HT.out]; rfl), ((Below.refl _ _).alloc (Nat.le_refl _) _).alloc (by simp) _⟩

theorem zero_U : Value.int .u64 0 = U 0#64 := rfl

set_option maxHeartbeats 400000 in
theorem crc_any (b : ByteArray) (w : World) (hs : b.size ≤ maxLen) :
    Calls Tryz.prog 17 #[.string b] w fun e w' => e = .returned (U (crcT 0#64 b.data.toList)) ∧ Below w.heap.size w w' := by
  go_enter Tryz.func17, Tryz.ntmps17
  go_wp2_with (go_at_call 71; rw [zero_U]; refine (more_any _ _ _ hs).mono ?_; rintro e w' ⟨rfl, hb⟩)
  go_ret
  exact ⟨rfl, hb⟩

end Go.Proofs.YtpnmhldaaaemeaaGreat.Sum
/- Chapter 24: Encode. -/
namespace Go.Proofs.YtpnmhldaaaemeaaGreat.Snp
open Go.RowKit Go.Proofs.YtpnmhldaaaemeaaGreat.Pin

def itB (it : It) : List UInt8 := leB 1 1 ++ (leB it.db.toNat 1 ++ (leB it.dead.toNat 8 ++ (textB it.key ++ (leB it.val.kind 1 ++ vaB it.val))))
def magicB : List UInt8 := [115, 116, 105, 108, 108, 114, 111, 111, 109, 49]
def bodyB (l : List It) : List UInt8 := magicB ++ ((l.map itB).flatten ++ leB 0 1)
def sumB (l : List UInt8) : Nat := (Sum.crcT 0#64 l).toNat
def encB (l : List It) : List UInt8 := bodyB l ++ leB (sumB (bodyB l)) 8
theorem itB_len (it : It) : (itB it).length = 15 + it.key.size + (vaB it.val).length := by
  simp only [itB, List.length_append, leB_len, textB_len]
  omega
/-- block k is not the writer's, nor its row -/
structure Safe (g : Nat) (w : World) (k : Nat) (o : Obj) : Prop where
  lt : k < w.heap.size
  ne : k ≠ g
  row : rowAt w g ≠ some k
  at_ : w.heap[k]? = some o
theorem Safe.puts {g k : Nat} {w w' : World} {o : Obj} (h : Safe g w k o) (hp : Puts g w w') : Safe g w' k o := by
  refine ⟨Nat.lt_of_lt_of_le h.lt hp.size, h.ne, ?_, (hp.block k h.lt h.ne h.row).trans h.at_⟩
  rcases hp.row with e | ⟨r, e, hr⟩
  · rw [e]; exact h.row
  · rw [e]; intro e2; have : r = k := by simpa using e2
    have := h.lt
    omega
theorem Safe.new {B g : Nat} {w : World} {l : List UInt8} (h : Wr w B g l) (o : Obj) : Safe g (w.alloc o) w.heap.size o := by
  have hl := h.lt
  obtain ⟨v, hb, hr, _, _⟩ := h
  refine ⟨by simp, by omega, ?_, heap_alloc_new w o⟩
  rw [rowAt_of ((heap_alloc_old w o hl).trans hb)]
  intro e
  have := (hr.lt _ e).2
  omega
theorem itO_cells {W : World} {b : Nat} {it : It} {c : Cl} (h : W.heap[b]? = some (iO it c)) :
    W.cell? ⟨b, 2, none⟩ = some (.int .u8 (it.val.kind : Int)) ∧ W.cell? ⟨b, 3, none⟩ = some (.string it.val.text) ∧ W.cell? ⟨b, 4, none⟩ = some (c.lv) ∧ W.cell? ⟨b, 5, none⟩ = some (c.hv) ∧ W.cell? ⟨b, 6, none⟩ = some (c.sv) ∧ W.cell? ⟨b, 7, none⟩ = some (c.zv) ∧ W.cell? ⟨b, 8, none⟩ = some (c.ev) ∧ W.cell? ⟨b, 9, none⟩ = some (.int .u64 (it.val.ms : Int)) ∧ W.cell? ⟨b, 10, none⟩ = some (.int .u64 (it.val.seq : Int)) := by
  refine ⟨?_, ?_, ?_, ?_, ?_, ?_, ?_, ?_, ?_⟩ <;> (rw [Lib.cell_of_heap h]; rfl)
theorem put_enter (k : Nat) (h1 : 1 ≤ k) (h6 : k ≤ 6) (args : Array Value) (w : World) : (callFunc (putF k) args).run Tryz.prog w = .ok (.enter (putF k) args) w := by
  have hk : k = 1 ∨ k = 2 ∨ k = 3 ∨ k = 4 ∨ k = 5 ∨ k = 6 := by omega
  rcases hk with rfl | rfl | rfl | rfl | rfl | rfl <;> (simp only [putF]; go_simp)
theorem Puts.of_below {g : Nat} {w w' : World} (hg : g < w.heap.size) (h : Below w.heap.size w w') : Puts g w w' :=
  ⟨h.os, h.tape, h.output, h.size, fun k hk _ _ => h.block k hk, .inl (by unfold rowAt; rw [h.block g hg])⟩
theorem Wr.of_below {w w' : World} {B g : Nat} {l : List UInt8} (hw : Wr w B g l) (h : Below w.heap.size w w') : Wr w' B g l := by
  have hl := hw.lt
  obtain ⟨v, hb, hr, h1, h2⟩ := hw
  exact ⟨v, (h.block g hl).trans hb, hr.kept (fun k hk => h.block k (hr.lt k hk).2), h1, h2⟩
theorem conv_bytes {w : World} {B : Nat} {v : Value} {l : List UInt8} (h : Row w B v l) : (convert 55 9 v).run Tryz.prog w = .ok (.string ⟨l.toArray⟩) w := by
  have hc : ∀ g, v.ownBlock = some g → ∀ j u, (bcs l)[j]? = some u → w.cell? ((⟨g, 0, none⟩ : Addr).add j) = some u := fun g hg => h.cells hg
  obtain ⟨g, cap, cur, fz, rfl, _⟩ := h
  exact run_convert_bytes_back w 55 9 5 ⟨g, 0, none⟩ cap l Tryz.underlying55 Tryz.underlying5 Tryz.underlying9 (fun j hj => hc g rfl j _ (by simp [bcs, hj]))
theorem magic_row (w : World) (B : Nat) (hB : B ≤ w.heap.size) : Row (w.alloc (.cells (bcs magicB).toArray 5 (10, 11))) B (.slice (some ⟨w.heap.size, 0, none⟩) 10 10) magicB :=
  ⟨w.heap.size, 10, (bcs magicB).toArray, (10, 11), rfl, hB, heap_alloc_new w _, Nat.le_refl _, by unfold maxLen; omega, rfl, rfl, .inr rfl⟩
set_option maxHeartbeats 4000000 in
set_option maxRecDepth 100000 in
theorem enc_yes (l : List It) (v : Value) (w : World) (hT : ItemsAt w w.heap.size v l) (hl : l.length ≤ 140737488351232) (hB : ∀ it ∈ l, VaB it.val) (hI : ∀ it ∈ l, IdsB it.val) (hsz : (encB l).length ≤ 140737488355328) (hck : CheckP l) :
    Calls Tryz.prog 7 #[v] w fun e w' => e = .returned (.tuple #[.string ⟨(encB l).toArray⟩, .int .i64 0]) ∧ Below w.heap.size w w' := by
  have HCK := Lib.hid (check_any l v w hT hl hB)
  rw [eno_yes hck] at HCK
  obtain ⟨A, c, rfl, hT⟩ := hT
  obtain ⟨L, hL⟩ : ∃ L, L = l.length := ⟨_, rfl⟩
  rw [← hL] at hl HCK ⊢
  have HL := Lib.hid hL
  have HT := Lib.hid hT
  have HVB := Lib.hid hB
  have HIB := Lib.hid hI
  have HSZ := Lib.hid hsz
  have HFI := Lib.hid (show ∀ it ∈ l, FineP it from fun it hit => by
    obtain ⟨j, hj, rfl⟩ := List.getElem_of_mem hit
    exact (hck j hj hj).1)
  clear hL hT hB hI hsz hck
  go_enter Tryz.func7, Tryz.ntmps7
  go_wp2_with fail
  refine HCK.out.mono ?_
  rintro e w1 ⟨rfl, hb1⟩
  have HB1 := Lib.hid hb1
  clear hb1
  go_wp2_with fail
  refine (kinds_any w1).mono ?_
  rintro e w2 ⟨rfl, hb2⟩
  have HB2 : Hid (Below w.heap.size w w2) := Lib.hid (HB1.out.trans (hb2.mono HB1.out.size))
  clear hb2 HB1
  have kc := Joins.run_convert_bytes_const_at (P := Tryz.prog) (w2.alloc (.cells kindsA 52)) 55 5 #[.int .u8 115, .int .u8 116, .int .u8 105, .int .u8 108, .int .u8 108, .int .u8 114, .int .u8 111, .int .u8 111, .int .u8 109, .int .u8 49] 10 10 (w2.heap.size + 1) (by simp) Tryz.underlying55 Tryz.underlying5
  go_wp2_with (refine wpList_store_row rfl 52 (.tmp 5) (.tmp 14) (by rfl) w2.heap.size kindsA (by rfl) (by rfl) 52 zeroA (heap_alloc_new w2 _) kinds_size rfl (by kernel_rfl) ?_)
  rw [World.setRow_alloc_new]
  go_wp2_with fail
  rw [kc]
  go_simp
  go_wp2_with fail
  obtain ⟨W, hW⟩ : ∃ W, W = ((w2.alloc (.cells kindsA 52)).alloc (.cells (bcs magicB).toArray 5 (10, 11))).alloc (.cells #[.slice (some ⟨w2.heap.size + 1, 0, none⟩) 10 10] 57) := ⟨_, rfl⟩
  have hsz2 : w.heap.size ≤ w2.heap.size := HB2.out.size
  have hr0 : Row W w.heap.size (.slice (some ⟨w2.heap.size + 1, 0, none⟩) 10 10) magicB := by
    rw [hW]
    have := (magic_row (w2.alloc (.cells kindsA 52)) w.heap.size (by simp; omega)).alloc (.cells #[.slice (some ⟨w2.heap.size + 1, 0, none⟩) 10 10] 57)
    simpa using this
  obtain ⟨g, hg⟩ : ∃ g, g = w2.heap.size + 2 := ⟨_, rfl⟩
  have hgb : W.heap[g]? = some (.cells #[.slice (some ⟨w2.heap.size + 1, 0, none⟩) 10 10] 57 (0, 0)) := by
    rw [hW, hg]
    have := heap_alloc_new ((w2.alloc (.cells kindsA 52)).alloc (.cells (bcs magicB).toArray 5 (10, 11))) (.cells #[.slice (some ⟨w2.heap.size + 1, 0, none⟩) 10 10] 57)
    simpa using this
  have HW0 : Hid (Wr W w.heap.size g magicB) := Lib.hid ⟨_, hgb, hr0, by rw [hg]; simp [Value.ownBlock], by omega⟩
  obtain ⟨ab, hab⟩ : ∃ ab, ab = w2.heap.size := ⟨_, rfl⟩
  have HS0 : Hid (Safe g W ab (.cells kindsA 52)) := Lib.hid ⟨by rw [hW, hab]; simp; omega, by omega, by rw [rowAt_of hgb]; simp [Value.ownBlock]; omega, by rw [hW, hab, heap_alloc_old _ _ (by simp; omega), heap_alloc_old _ _ (by simp), heap_alloc_new]⟩
  have HBW : Hid (Below w.heap.size w W) := Lib.hid (by rw [hW]; exact ((HB2.out.alloc HB2.out.size _).alloc (by simp; omega) _).alloc (by simp; omega) _)
  rw [show w2.heap.size + 1 + 1 = g by rw [hg], show ((w2.alloc (.cells kindsA 52)).alloc (.cells #[.int .u8 115, .int .u8 116, .int .u8 105, .int .u8 108, .int .u8 108, .int .u8 114, .int .u8 111, .int .u8 111, .int .u8 109, .int .u8 49] 5 (10, 11))).alloc (.cells #[.slice (some ⟨w2.heap.size + 1, 0, none⟩) 10 10] 57) = W by rw [hW]; rfl, ← hab]
  have HG := Lib.hid hg
  clear hW hg hr0 hgb hab kc HB2 hsz2
  go_loopw [21] (fun i wr => ∃ (k : Nat), k ≤ L ∧ i = .int .i64 k ∧ Hid (Wr wr w.heap.size g (magicB ++ ((l.take k).map itB).flatten)) ∧ Hid (Puts g W wr)) (fun i _ => L - (intOf i).toNat)
  case atStart => exact ⟨0, by omega, rfl, Lib.hid (by simpa using HW0.out), Lib.hid (Puts.refl _ _)⟩
  case round =>
    obtain ⟨k, hk, rfl, HWr, HPt⟩ := hrel
    by_cases hlt : k < L
    · have hlt' : (k : Int) < (L : Int) := by omega
      have hkl : k < l.length := by rw [← HL.out]; exact hlt
      obtain ⟨r, o, rfl, hr, hc⟩ := HT.out (by have := HL.out; omega)
      obtain ⟨cl, hra, hva⟩ := hc k hkl
      have hvb := HVB.out _ (List.getElem_mem hkl)
      have hib := HIB.out _ (List.getElem_mem hkl)
      have hfi := HFI.out _ (List.getElem_mem hkl)
      have hle := flat_le (f := itB) k hkl
      obtain ⟨x, hx⟩ : ∃ x, x = l[k] := ⟨_, rfl⟩
      rw [← hx] at hra hva hvb hib hfi hle
      have HX := Lib.hid hx
      have HBW2 : Hid (Below w.heap.size w wr) := Lib.hid (HBW.out.trans (HW0.out.below HPt.out))
      have hra' : wr.rangeAt r (o + k * 12) (icells x cl) := fun j u hj => (HBW2.out.cell (p := ⟨r, _, none⟩) hr).trans (hra j u hj)
      have d0 : wr.cell? ⟨r, o + k * 12, none⟩ = some (.int .i64 x.db) := hra' 0 _ rfl
      have d1 : wr.cell? ⟨r, o + k * 12 + 1, none⟩ = some (.string x.key) := hra' 1 _ rfl
      have d2 : wr.cell? ⟨r, o + k * 12 + 2, none⟩ = some (.int .u8 (x.val.kind : Int)) := hra' 2 _ rfl
      have d3 : wr.cell? ⟨r, o + k * 12 + 3, none⟩ = some (.string x.val.text) := hra' 3 _ rfl
      have d4 : wr.cell? ⟨r, o + k * 12 + 4, none⟩ = some (cl.lv) := hra' 4 _ rfl
      have d5 : wr.cell? ⟨r, o + k * 12 + 5, none⟩ = some (cl.hv) := hra' 5 _ rfl
      have d6 : wr.cell? ⟨r, o + k * 12 + 6, none⟩ = some (cl.sv) := hra' 6 _ rfl
      have d7 : wr.cell? ⟨r, o + k * 12 + 7, none⟩ = some (cl.zv) := hra' 7 _ rfl
      have d8 : wr.cell? ⟨r, o + k * 12 + 8, none⟩ = some (cl.ev) := hra' 8 _ rfl
      have d9 : wr.cell? ⟨r, o + k * 12 + 9, none⟩ = some (.int .u64 (x.val.ms : Int)) := hra' 9 _ rfl
      have d10 : wr.cell? ⟨r, o + k * 12 + 10, none⟩ = some (.int .u64 (x.val.seq : Int)) := hra' 10 _ rfl
      have d11 : wr.cell? ⟨r, o + k * 12 + 11, none⟩ = some (.int .i64 x.dead) := hra' 11 _ rfl
      have H1C := Lib.hid (icells_one hva)
      have HVA := Lib.hid hva
      have HVX := Lib.hid hvb
      have HIX := Lib.hid hib
      have HFX := Lib.hid hfi
      have HLE : Hid ((magicB ++ ((l.take k).map itB).flatten).length + (itB x).length ≤ 140737488355328) := Lib.hid (by
        have := HSZ.out
        simp only [encB, bodyB, List.length_append] at this ⊢
        omega)
      clear hx hra hra' hva hvb hib hfi hle hc hr
      go_wp2_with (refine wpList_store_row rfl 44 (.tmp 8) (.tmp 24) (by rfl) wr.heap.size (icells x cl).toArray (by rfl) (by rfl) 44 #[.int .i64 0, .string ⟨#[]⟩, .int .u8 0, .string ⟨#[]⟩, .slice none 0 0, .slice none 0 0, .slice none 0 0, .slice none 0 0, .slice none 0 0, .int .u64 0, .int .u64 0, .int .i64 0] (heap_alloc_new wr _) item_size rfl H1C.out ?_)
      rw [show (wr.alloc _).setRow wr.heap.size (icells x cl).toArray = wr.alloc (iO x cl) from World.setRow_alloc_new _ _ _ _]
      clear d0 d1 d2 d3 d4 d5 d6 d7 d8 d9 d10 d11
      obtain ⟨acc, hacc⟩ : ∃ acc, acc = magicB ++ ((l.take k).map itB).flatten := ⟨_, rfl⟩
      rw [← hacc] at HWr HLE
      have HACC := Lib.hid hacc
      have hf1 := HFX.out.1
      have hf2 := HFX.out.2.2.1
      have hf3 := HFX.out.2.2.2.1
      obtain ⟨nd, hnd⟩ : ∃ nd, nd = x.db.toNat := ⟨_, rfl⟩
      obtain ⟨ne, hne⟩ : ∃ ne, ne = x.dead.toNat := ⟨_, rfl⟩
      have hw1 : IntKind.u64.wrap x.db = (nd : Int) := by rw [IntKind.wrap_u64]; omega
      have hw2 : IntKind.u64.wrap x.dead = (ne : Int) := by rw [IntKind.wrap_u64]; omega
      have HND := Lib.hid hnd
      have HNE := Lib.hid hne
      have hw3 : IntKind.u64.wrap (x.val.kind : Int) = (x.val.kind : Int) := by rw [IntKind.wrap_u64]; omega
      have HF1 := Lib.hid (show nd < 18446744073709551616 by omega)
      have HF2 := Lib.hid (show ne < 18446744073709551616 by omega)
      have HF3 := Lib.hid (show x.val.kind < 18446744073709551616 by omega)
      have HF4 := Lib.hid hf3
      have hlen := HLE.out
      rw [itB_len] at hlen
      have HLN := Lib.hid hlen
      have HW3 : Hid (Wr (wr.alloc (iO x cl)) w.heap.size g acc) := Lib.hid (HWr.out.alloc _)
      have HP3 : Hid (Puts g W (wr.alloc (iO x cl))) := Lib.hid (HPt.out.trans (Puts.alloc g wr _ HWr.out.lt))
      have HX3 : Hid (Safe g (wr.alloc (iO x cl)) wr.heap.size (iO x cl)) := Lib.hid (Safe.new HWr.out _)
      clear hacc hf1 hf2 hf3 hlen hnd hne
      go_wp2_with fail
      refine (number_any 1 1 acc w.heap.size g _ HW3.out (by decide) (by decide) (by have := HLN.out; omega)).mono ?_
      rintro e w4 ⟨rfl, hw', hp'⟩
      have HW4 := Lib.hid hw'
      have HP4 : Hid (Puts g W w4) := Lib.hid (HP3.out.trans hp')
      have HX4 := Lib.hid (HX3.out.puts hp')
      have c0 : w4.cell? ⟨wr.heap.size, 0, none⟩ = some (.int .i64 x.db) := by rw [Lib.cell_of_heap HX4.out.at_]; rfl
      clear hw' hp' HX3 HP3 HW3
      go_wp2_with fail
      refine (number_any nd 1 _ w.heap.size g w4 HW4.out HF1.out (by decide) (by have := HLN.out; simp only [List.length_append, leB_len]; omega)).mono ?_
      rintro e w5 ⟨rfl, hw', hp'⟩
      have HW5 := Lib.hid hw'
      have HP5 : Hid (Puts g W w5) := Lib.hid (HP4.out.trans hp')
      have HX5 := Lib.hid (HX4.out.puts hp')
      have c3 : w5.cell? ⟨wr.heap.size, 11, none⟩ = some (.int .i64 x.dead) := by rw [Lib.cell_of_heap HX5.out.at_]; rfl
      clear hw' hp' HX4 HP4 HW4
      go_wp2_with fail
      refine (number_any ne 8 _ w.heap.size g w5 HW5.out HF2.out (by decide) (by have := HLN.out; simp only [List.length_append, leB_len]; omega)).mono ?_
      rintro e w6 ⟨rfl, hw', hp'⟩
      have HW6 := Lib.hid hw'
      have HP6 : Hid (Puts g W w6) := Lib.hid (HP5.out.trans hp')
      have HX6 := Lib.hid (HX5.out.puts hp')
      have c1 : w6.cell? ⟨wr.heap.size, 1, none⟩ = some (.string x.key) := by rw [Lib.cell_of_heap HX6.out.at_]; rfl
      clear hw' hp' HX5 HP5 HW5
      go_wp2_with fail
      refine (text_wr x.key _ w.heap.size g w6 HW6.out (by have := HLN.out; simp only [List.length_append, leB_len, textB_len]; omega)).mono ?_
      rintro e w7 ⟨rfl, hw', hp'⟩
      have HW7 := Lib.hid hw'
      have HP7 : Hid (Puts g W w7) := Lib.hid (HP6.out.trans hp')
      have HX7 := Lib.hid (HX6.out.puts hp')
      have c2 : w7.cell? ⟨wr.heap.size, 2, none⟩ = some (.int .u8 (x.val.kind : Int)) := by rw [Lib.cell_of_heap HX7.out.at_]; rfl
      clear hw' hp' HX6 HP6 HW6
      go_wp2_with fail
      refine (number_any x.val.kind 1 _ w.heap.size g w7 HW7.out HF3.out (by decide) (by have := HLN.out; simp only [List.length_append, leB_len, textB_len]; omega)).mono ?_
      rintro e w8 ⟨rfl, hw', hp'⟩
      have HW8 := Lib.hid hw'
      have HP8 : Hid (Puts g W w8) := Lib.hid (HP7.out.trans hp')
      have HX8 := Lib.hid (HX7.out.puts hp')
      clear hw' hp' HX7 HP7 HW7
      have HS8 := Lib.hid (HS0.out.puts HP8.out)
      obtain ⟨g2, g3, g4, g5, g6, g7, g8, g9, g10⟩ := itO_cells HX8.out.at_
      have hk8 : w8.cell? ⟨ab, x.val.kind * 3 + 1, none⟩ = some (.func (.func (putF x.val.kind)) #[] #[]) := by
        rw [Lib.cell_of_heap HS8.out.at_]
        have := HF4.out
        have hk : x.val.kind = 1 ∨ x.val.kind = 2 ∨ x.val.kind = 3 ∨ x.val.kind = 4 ∨ x.val.kind = 5 ∨ x.val.kind = 6 := by omega
        rcases hk with hk | hk | hk | hk | hk | hk <;> (rw [hk]; rfl)
      have hpe := put_enter x.val.kind HF4.out.1 HF4.out.2
      have hk1 : (x.val.kind : Int) < 7 := by have := HF4.out; omega
      have hk1n : x.val.kind < 7 := by have := HF4.out; omega
      obtain ⟨a8, hl8, he8, hw8⟩ : ∃ a8, a8.length = acc.length + (15 + x.key.size) ∧ a8 ++ vaB x.val = acc ++ itB x ∧ Wr w8 w.heap.size g a8 :=
        ⟨acc ++ leB 1 1 ++ leB nd 1 ++ leB ne 8 ++ textB x.key ++ leB x.val.kind 1, by simp only [List.length_append, leB_len, textB_len]; omega, by rw [itB, ← HND.out, ← HNE.out]; simp only [List.append_assoc], HW8.out⟩
      have HPA := Lib.hid (fun n => put_any x.val cl a8 w.heap.size g (w8.drewN n) (hw8.drewN n) (HVA.out.below (below_drewN (HBW.out.trans (HW0.out.below HP8.out)) n)) HVX.out HIX.out HF4.out.1 HF4.out.2 (by have := HLN.out; omega))
      have HE8 := Lib.hid he8
      clear hl8 he8 hw8 HW8
      go_wp2_with fail
      refine wp_region_q [0,0,1,0,0,1,0,0,1,2] (by kernel_rfl) (by kernel_rfl) ?_
      (refine q_pure_n rfl (fun K hK => ?_); go_simp; refine hK _ _ ?_; clear hK K)
      (refine q_pure_n rfl (fun K hK => ?_); go_simp; refine hK _ _ ?_; clear hK K)
      (refine q_read_n rfl (fun K hK => ?_); go_simp; refine hK _ _ ?_; clear hK K)
      (refine q_pure_n rfl (fun K hK => ?_); go_simp; refine hK _ _ ?_; clear hK K)
      (refine q_pure_n rfl (fun K hK => ?_); go_simp; refine hK _ _ ?_; clear hK K)
      (refine q_read_n rfl (fun K hK => ?_); go_simp; refine hK _ _ ?_; clear hK K)
      (refine q_pure_n rfl (fun K hK => ?_); go_simp; refine hK _ _ ?_; clear hK K)
      (refine q_pure_n rfl (fun K hK => ?_); go_simp; refine hK _ _ ?_; clear hK K)
      (refine q_read_n rfl (fun K hK => ?_); go_simp; refine hK _ _ ?_; clear hK K)
      (refine q_write_n rfl (fun K hK => ?_); go_simp; intro nw; refine (HPA.out _).mono ?_; rintro e w9 ⟨rfl, hw', hp'⟩; obtain ⟨w9, rfl⟩ : ∃ w5, w9 = World.drewN w5 0 := ⟨w9, rfl⟩; have HW9 := Lib.hid hw'; have HP9 : Hid (Puts g W w9) := Lib.hid (HP8.out.trans ((Puts.refl g w8).drewN _ |>.trans hp')); clear hw' hp'; refine ⟨_, rfl, _, ⟨_, rfl⟩, hK _ _ ?_⟩; clear hK K)
      refine q_nil ?_
      intro nq
      go_wp2_with fail
      refine ⟨⟨k + 1, by omega, by go_num, Lib.hid ?_, Lib.hid (HP9.out.drewN _)⟩, by simp [intOf]; omega⟩
      have hw := HW9.out.drewN nq
      rw [HE8.out, HACC.out] at hw
      rw [flat_succ (by rw [← HL.out]; exact hlt), ← HX.out]
      simp only [List.append_assoc] at hw ⊢
      exact hw
    · have hkL : k = l.length := by have := HL.out; omega
      have hw := HWr.out
      rw [hkL, List.take_length] at hw
      have HW3 := Lib.hid hw
      have hlen := HSZ.out
      simp only [encB, bodyB, List.length_append, leB_len] at hlen
      have HLN := Lib.hid hlen
      have HBZ : Hid (ByteArray.size ⟨(bodyB l).toArray⟩ ≤ maxLen) := Lib.hid (by
        show (bodyB l).toArray.size ≤ maxLen
        unfold maxLen
        simp only [bodyB, List.size_toArray, List.length_append, leB_len]
        omega)
      clear hkL hw hlen HWr
      have hlt' : ¬ (k : Int) < (L : Int) := by omega
      go_wp2_with fail
      refine (number_any 0 1 _ w.heap.size g wr HW3.out (by decide) (by decide) (by have := HLN.out; simp only [List.length_append]; omega)).mono ?_
      rintro e w4 ⟨rfl, hw', hp'⟩
      have hw4 : Wr w4 w.heap.size g (bodyB l) := by rw [bodyB, ← List.append_assoc]; exact hw'
      have HW4 := Lib.hid hw4
      have HP4 := Lib.hid (HPt.out.trans hp')
      obtain ⟨v4, hv4, hr4, _, _⟩ := hw4
      have hc4 : w4.cell? ⟨g, 0, none⟩ = some v4 := by rw [Lib.cell_of_heap hv4]; rfl
      have hcv := conv_bytes hr4
      clear hw' hp' hv4 hr4
      go_wp2_with fail
      refine (Sum.crc_any ⟨(bodyB l).toArray⟩ w4 HBZ.out).mono ?_
      rintro e w5 ⟨rfl, hb5⟩
      have HW5 := Lib.hid (HW4.out.of_below hb5)
      have HP5 := Lib.hid (HP4.out.trans (Puts.of_below HW4.out.lt hb5))
      clear hb5 hc4 hcv
      have HNA := Lib.hid (number_any (sumB (bodyB l)) 8 _ w.heap.size g w5 HW5.out (Nat.lt_of_lt_of_le (Sum.crcT 0#64 (bodyB l)).isLt (by decide)) (by decide) (by have := HLN.out; simp only [bodyB, List.length_append, leB_len]; omega))
      go_wp2_with fail
      refine HNA.out.mono ?_
      rintro e w6 ⟨rfl, hw', hp'⟩
      have hw6 : Wr w6 w.heap.size g (encB l) := hw'
      have HB6 := Lib.hid (HBW.out.trans (HW0.out.below (HP5.out.trans hp')))
      obtain ⟨v6, hv6, hr6, _, _⟩ := hw6
      have hc6 : w6.cell? ⟨g, 0, none⟩ = some v6 := by rw [Lib.cell_of_heap hv6]; rfl
      have hcv := conv_bytes hr6
      clear hw' hp' hv6 hr6
      go_wp2_with fail
      go_ret2
      exact ⟨rfl, HB6.out⟩
set_option maxHeartbeats 1000000 in
set_option maxRecDepth 100000 in
theorem enc_no (l : List It) (v : Value) (w : World) (hT : ItemsAt w w.heap.size v l) (hl : l.length ≤ 140737488351232) (hB : ∀ it ∈ l, VaB it.val) (hck : ¬ CheckP l) :
    Calls Tryz.prog 7 #[v] w fun e w' => e = .returned (.tuple #[.string ⟨#[]⟩, .int .i64 1]) ∧ Below w.heap.size w w' := by
  have HCK := Lib.hid (check_any l v w hT hl hB)
  rw [eno_no hck] at HCK
  clear hT hl hB hck
  go_enter Tryz.func7, Tryz.ntmps7
  go_wp2_with fail
  refine HCK.out.mono ?_
  rintro e w1 ⟨rfl, hb1⟩
  have HB1 := Lib.hid hb1
  clear hb1
  go_wp2_with fail
  go_ret2
  exact ⟨rfl, HB1.out⟩
end Go.Proofs.YtpnmhldaaaemeaaGreat.Snp
/- The document's checksum (stillroomref02): the same register. Out of Crc, beside CrcP. -/
namespace Go.Proofs.YtpnmhldaaaemeaaGreat.Sum
open Go.RowKit Go.Proofs.YtpnmhldaaaemeaaGreat.Uw
attribute [local go_sem high] shr8 run_xor run_xorB run_xorBc to_byte of_byte idx_row rem2 quo2 eq1 xorPoly eqGuard_U
set_option maxHeartbeats 400000 in
set_option maxRecDepth 100000 in
theorem refMore_any (s : BitVec 64) (b : ByteArray) (w : World) (hs : b.size ≤ maxLen) :
    Calls Tryz.prog 117 #[U s, .string b] w fun e w' => e = .returned (U (crcR s b.data.toList)) ∧ w = w' := by
  unfold maxLen at hs
  go_enter Tryz.func117, Tryz.ntmps117
  go_wp2
  go_loop [5, 6] (fun v i => ∃ k : Nat, k ≤ b.size ∧ i = .int .i64 k ∧ v = U (crcR s (b.data.toList.take k))) (fun _ i => b.size - (intOf i).toNat)
  case atStart => exact ⟨0, by omega, rfl, rfl⟩
  case round =>
    obtain ⟨k, hk, rfl, rfl⟩ := hrel
    by_cases hlt : k < b.size
    · have HS := Lib.hid (take_snoc b k hlt)
      have HC := Lib.hid (crcR_snoc s (b.data.toList.take k) b[k])
      go_wp2
      go_loop [5, 7] (fun c v => ∃ m : Nat, m ≤ 8 ∧ v = .int .i64 m ∧ c = U (riter m (crcR s (b.data.toList.take k) ^^^ zx b[k]))) (fun _ v => 8 - (intOf v).toNat)
      case atStart => exact ⟨0, by omega, rfl, rfl⟩
      case round =>
        obtain ⟨m, hm, rfl, rfl⟩ := hrel
        go_wp2
        all_goals first
          | (exact ⟨⟨m + 1, by omega, by go_num, by simp only [riter, rstep, *]; rfl⟩, by simp [intOf]; omega⟩)
          | skip
        have e : m = 8 := by omega
        subst e
        exact ⟨⟨k + 1, by omega, by go_num, by rw [HS.out, HC.out]⟩, by simp [intOf]; omega⟩
    · have e : k = b.size := by omega
      subst e
      have HT := Lib.hid (take_all b)
      go_wp2
      go_ret
      exact ⟨by first | rfl | (rw [HT.out]; rfl), rfl⟩


set_option maxHeartbeats 400000 in
theorem refCrc_any (b : ByteArray) (w : World) (hs : b.size ≤ maxLen) :
    Calls Tryz.prog 103 #[.string b] w fun e w' => e = .returned (U (crcR 0#64 b.data.toList)) ∧ w = w' := by
  go_enter Tryz.func103, Tryz.ntmps103
  go_wp2_with (go_at_call 117; rw [zero_U]; refine (refMore_any _ _ _ hs).mono ?_; rintro e w' ⟨rfl, rfl⟩)
  go_ret
  exact ⟨rfl, rfl⟩
end Go.Proofs.YtpnmhldaaaemeaaGreat.Sum
/- Chapter 24: a row out of '[]byte(s)': its block is marked just behind its last cell; single bytes are put behind it. -/
namespace Go.Proofs.YtpnmhldaaaemeaaGreat.Snp
open Go.RowKit Go.Proofs.YtpnmhldaaaemeaaGreat.Pin
def RowF (w : World) (B : Nat) (v : Value) (l : List UInt8) : Prop :=
  ∃ g cap cur, v = .slice (some ⟨g, 0, none⟩) l.length cap ∧ B ≤ g ∧ w.heap[g]? = some (.cells cur 5 (cap, cap + 1)) ∧ l.length ≤ cap ∧ cap ≤ maxLen ∧ cur.size = cap ∧ cur.toList.take l.length = bcs l
def RowB (w : World) (B : Nat) (v : Value) (l : List UInt8) : Prop := Row w B v l ∨ RowF w B v l
theorem RowB.lt {w : World} {B : Nat} {v : Value} {l : List UInt8} (h : RowB w B v l) : ∀ g, v.ownBlock = some g → B ≤ g ∧ g < w.heap.size := by
  rcases h with h | ⟨g, cap, cur, rfl, hB, hg, _⟩
  · exact h.lt
  · intro k hk
    obtain rfl : g = k := by simpa [Value.ownBlock] using hk
    exact ⟨hB, (Array.getElem?_eq_some_iff.1 hg).1⟩
theorem RowB.kept {w w' : World} {B : Nat} {v : Value} {l : List UInt8} (h : RowB w B v l) (hk : ∀ g, v.ownBlock = some g → w'.heap[g]? = w.heap[g]?) : RowB w' B v l := by
  rcases h with h | ⟨g, cap, cur, rfl, hB, hg, rest⟩
  · exact .inl (h.kept hk)
  · exact .inr ⟨g, cap, cur, rfl, hB, (hk g rfl).trans hg, rest⟩
theorem RowB.alloc {w : World} {B : Nat} {v : Value} {l : List UInt8} (h : RowB w B v l) (o : Obj) : RowB (w.alloc o) B v l := h.kept fun g hg => heap_alloc_old w o (h.lt g hg).2
/-- one byte behind -/
theorem rowb_append {w : World} {B : Nat} {v : Value} {l : List UInt8} (h : RowB w B v l) (hB : B ≤ w.heap.size) (a : Addr) (c : Nat) (x : UInt8) (hnews : ∀ j u, (bcs [x])[j]? = some u → w.cell? (a.add j) = some u) (hb : l.length + 1 ≤ 140737488355328) (ty : TypeId) :
    ∃ v' w', (Builtin.append_ #[55, 55] ty #[v, .slice (some a) 1 c]).run Tryz.prog w = .ok v' w' ∧ RowB w' B v' (l ++ [x]) ∧ Ap w v w' v' := by
  rcases h with h | ⟨g, cap, cur, rfl, hBg, hg, hl, hc, hs, ht⟩
  · obtain ⟨v', w', h1, h2, h3⟩ := row_append h hB a c [x] (by simp) hnews (by simpa using hb) ty
    exact ⟨v', w', h1, .inl h2, h3⟩
  · by_cases hroom : l.length + 1 ≤ cap
    · obtain ⟨i0, hi, hz0, hz1, hz2⟩ := info_parts info_byte
      have hr := run_append_room_cells (P := Tryz.prog) w 55 ty 5 i0 Tryz.underlying55 hi g 0 l.length cap a 1 c (bcs [x]) (by rw [hz1, bcs_len]; simp) hnews (bcs_one [x]) hroom
        (fun j hj => by
          obtain rfl : j = 0 := by rw [bcs_len] at hj; simpa using hj
          rw [Lib.cell_of_heap hg, hz1]
          simp; omega)
        (fun j hj => by
          obtain rfl : j = 0 := by rw [bcs_len] at hj; simpa using hj
          simp [World.frozen?, hg, hz1]; omega)
      rw [hz1, Nat.zero_add, Nat.mul_one] at hr
      have hsc : w.setCells g l.length (bcs [x]) = w.setCell ⟨g, l.length, none⟩ (.int .u8 (x.toNat : Int)) := rfl
      rw [hsc, setCell_eq_setRow w g l.length _ _ (cap, cap + 1) _ hg] at hr
      refine ⟨_, _, hr, .inr ⟨g, cap, _, by simp, hBg, setRow_heap w g _ _ _ _ hg, by simpa using hroom, hc, by simpa using hs, ?_⟩, ⟨rfl, rfl, rfl, by simp, fun k _ hk => setRow_other w g k _ (fun e => hk (by simp [Value.ownBlock, e])), .inl rfl⟩⟩
      have hi : l.length < cur.toList.length := by rw [show cur.toList.length = cap from hs]; exact hroom
      rw [Array.toList_setIfInBounds, show (l ++ [x]).length = l.length + 1 by simp, List.take_succ_eq_append_getElem (by rw [List.length_set]; exact hi), List.getElem_set_self, List.take_set_of_le (Nat.le_refl _), ht, bcs_append]
      rfl
    · have hcap : cap = l.length := by omega
      have h : Row w B (.slice (some ⟨g, 0, none⟩) l.length cap) l := ⟨g, cap, cur, _, rfl, hBg, hg, hl, hc, hs, ht, .inr hcap⟩
      obtain ⟨v', w', h1, h2, h3⟩ := row_append h hB a c [x] (by simp) hnews (by simpa using hb) ty
      exact ⟨v', w', h1, .inl h2, h3⟩
theorem wpList_rowb {ops : Array Oper} {rest : List Oper} {o : Oper} {a : Act} {Q : Exit → Act → World → Prop} {w : World} (hgd : o.guard = none) (sl x : Operand)
    (ho : o.op = .call { callee := .builtin .append, args := #[sl, x], argTypes := #[55, 55] }) {B : Nat} {v : Value} {l : List UInt8} (hs : a.eval sl = v) (h : RowB w B v l) (hB : B ≤ w.heap.size) (ad : Addr) (c : Nat) (y : UInt8) (hx : a.eval x = .slice (some ad) 1 c)
    (hnews : ∀ j u, (bcs [y])[j]? = some u → w.cell? (ad.add j) = some u) (hb : l.length + 1 ≤ 140737488355328)
    (hK : ∀ v' w', RowB w' B v' (l ++ [y]) → Ap w v w' v' → wpList Tryz.prog ops Q rest (a.put o.dst v') w') : wpList Tryz.prog ops Q (o :: rest) a w := by
  refine wpList_plain hgd fun K hK' => ?_
  obtain ⟨v', w', hr, h2, h3⟩ := rowb_append h hB ad c y hnews hb o.type
  unfold Oper.wp execOp
  simp only [ho, resolve, invoke, builtin, Sem.run_bind, Sem.run_pure, Result.andThen_ok, List.map_toArray, List.map_cons, List.map_nil, hs, hx, hr]
  exact hK' _ _ (hK v' w' h2 h3)
set_option maxHeartbeats 1000000 in
set_option maxRecDepth 100000 in
/-- the document's numbers behind such a row -/
theorem ref_lowB (n k : Nat) (v : Value) (l : List UInt8) (B : Nat) (w : World) (h : RowB w B v l) (hB : B ≤ w.heap.size) (hn : n < 18446744073709551616) (hk : k ≤ 8) (hb : l.length + k ≤ 140737488355328) :
    Calls Tryz.prog 72 #[v, .int .u64 (n : Int), .int .i64 (k : Int)] w fun e w' => ∃ v', e = .returned v' ∧ RowB w' B v' (l ++ leB n k) ∧ Ap w v w' v' := by
  have HB := Lib.hid h
  have HN := Lib.hid hn
  have HL := Lib.hid hb
  clear h hn hb
  go_enter Tryz.func72, Tryz.ntmps72
  go_wp2_with fail
  go_loopw [0, 1, 7] (fun b m i wr => ∃ j : Nat, j ≤ k ∧ i = .int .i64 j ∧ m = .int .u64 ((n / 256 ^ j : Nat) : Int) ∧ RowB wr B b (l ++ leB n j) ∧ Ap w v wr b) (fun _ _ i _ => k - (intOf i).toNat)
  case atStart => exact ⟨0, Nat.zero_le _, rfl, by simp, by rw [leB_zero, List.append_nil]; exact HB.out, Ap.refl _ _⟩
  case round =>
    obtain ⟨j, hj, rfl, rfl, hr, ha⟩ := hrel
    have HR := Lib.hid hr
    have HA := Lib.hid ha
    clear hr ha
    by_cases hlt : j < k
    · obtain ⟨m, hm⟩ : ∃ m, m = n / 256 ^ j := ⟨_, rfl⟩
      have HM' : Hid (m < 18446744073709551616) := Lib.hid (by rw [hm]; exact Nat.lt_of_le_of_lt (Nat.div_le_self _ _) HN.out)
      have HM := Lib.hid hm
      rw [← hm]
      clear hm
      have HBW : Hid (∀ o : Obj, B ≤ (wr.alloc o).heap.size) := Lib.hid (fun o => Nat.le_trans (Nat.le_trans hB HA.out.size) (by simp))
      have HLE : Hid ((l ++ leB n j).length + 1 ≤ 140737488355328) := Lib.hid (by have := HL.out; simp [leB_len]; omega)
      go_wp2_with (at_builtin; (refine wpList_rowb rfl _ _ rfl rfl (HR.out.alloc _) (HBW.out _) ⟨wr.heap.size, 0, none⟩ 1 (UInt8.ofNat m) rfl ?c1 HLE.out ?_))
      case c1 => exact one_new (by simp)
      intro v' w1 hr1 ha1
      have HR1 := Lib.hid hr1
      have HA1 := Lib.hid ha1
      clear hr1 ha1
      go_wp2_with fail
      go_roundw
      case rel => exact ⟨j + 1, hlt, by go_num, by rw [HM.out, div_step]; exact wrap_nat (Nat.lt_of_le_of_lt (Nat.div_le_self _ _) HN.out), by rw [leB_succ, ← HM.out]; simpa only [List.append_assoc] using HR1.out, (HA.out.trans (Ap.alloc _ _ _)).trans HA1.out⟩
      case measure => simp [intOf]; omega
    · obtain rfl : j = k := by omega
      go_wp2_with fail
      go_ret
      exact ⟨_, rfl, HR.out, HA.out⟩
end Go.Proofs.YtpnmhldaaaemeaaGreat.Snp
