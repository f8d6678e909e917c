/- Laws of a uint64 seen as a row of 64 bits: U x is the value whose number is x; each operation of the program on such values is the operation on bits. Over any program. -/
import Derived.WalkKit
namespace Go.Proofs.YtnoalklbgncajaaDoor.Uw
open Go

/-- a uint64 as bits -/
def U (x : BitVec 64) : Value := .int .u64 (x.toNat : Int)
/-- a byte as bits -/
def B (x : BitVec 8) : Value := .int .u8 (x.toNat : Int)

theorem ofU (x : BitVec 64) : BitVec.ofInt 64 (x.toNat : Int) = x := by
  rw [BitVec.ofInt_natCast]; apply BitVec.eq_of_toNat_eq; simp
theorem ofB (x : BitVec 8) : BitVec.ofInt 8 (x.toNat : Int) = x := by
  rw [BitVec.ofInt_natCast]; apply BitVec.eq_of_toNat_eq; simp
theorem wrapU (x : BitVec 64) : IntKind.u64.wrap (x.toNat : Int) = x.toNat := by
  rw [IntKind.wrap_u64]; have := x.isLt; omega
theorem wrapB (x : BitVec 8) : IntKind.u8.wrap (x.toNat : Int) = x.toNat := by
  rw [IntKind.wrap_u8']; have := x.isLt; omega
theorem wrapInt (n : Int) : IntKind.u64.wrap n = ((BitVec.ofInt 64 n).toNat : Int) := by
  rw [IntKind.wrap_u64, BitVec.toNat_ofInt]
  have := Int.emod_nonneg n (b := 18446744073709551616) (by decide)
  simp only [Nat.reducePow]
  omega
theorem U_lit (n : Nat) (h : n < 18446744073709551616) : Value.int .u64 (n : Int) = U (BitVec.ofNat 64 n) := by
  unfold U; rw [BitVec.toNat_ofNat, Nat.mod_eq_of_lt (by omega)]
theorem U_int (n : Int) (h : 0 ≤ n ∧ n < 18446744073709551616) : Value.int .u64 n = U (BitVec.ofInt 64 n) := by
  unfold U
  rw [BitVec.toNat_ofInt]
  simp only [Nat.reducePow]
  have : (n % (18446744073709551616 : Nat)).toNat = n := by omega
  rw [this]
theorem B_byte (c : UInt8) : Value.int .u8 (c.toNat : Int) = B c.toBitVec := rfl
theorem U_inj {x y : BitVec 64} (h : U x = U y) : x = y := by
  unfold U at h; injection h with _ h; exact BitVec.eq_of_toNat_eq (by omega)

section
variable (P : Program) (t : TypeId) (w : World)
theorem xor_run (k : IntKind) (a b : Int) : (binOp .xor t (.int k a) (.int k b)).run P w = .ok (.int k (k.wrap (BitVec.ofInt k.bits a ^^^ BitVec.ofInt k.bits b).toNat)) w := by
  simp [binOp, Op.intBits]
theorem and_run (k : IntKind) (a b : Int) : (binOp .and t (.int k a) (.int k b)).run P w = .ok (.int k (k.wrap (BitVec.ofInt k.bits a &&& BitVec.ofInt k.bits b).toNat)) w := by
  simp [binOp, Op.intBits]
theorem or_run (k : IntKind) (a b : Int) : (binOp .or t (.int k a) (.int k b)).run P w = .ok (.int k (k.wrap (BitVec.ofInt k.bits a ||| BitVec.ofInt k.bits b).toNat)) w := by
  simp [binOp, Op.intBits]
theorem add_run (k : IntKind) (a b : Int) : (binOp .add t (.int k a) (.int k b)).run P w = .ok (.int k (k.wrap (a + b))) w := by
  simp [binOp, Op.intArith]
theorem mul_run (k : IntKind) (a b : Int) : (binOp .mul t (.int k a) (.int k b)).run P w = .ok (.int k (k.wrap (a * b))) w := by
  simp [binOp, Op.intArith]
theorem shr_run (k j : IntKind) (a b : Int) (h : ¬ b < 0) : (binOp .shr t (.int k a) (.int j b)).run P w = .ok (.int k (a.fdiv (2 ^ (min b.toNat k.bits)))) w := by
  simp [binOp, Op.shift, h]
theorem shl_run (k j : IntKind) (a b : Int) (h : ¬ b < 0) : (binOp .shl t (.int k a) (.int j b)).run P w = .ok (.int k (k.wrap (a * 2 ^ (min b.toNat k.bits)))) w := by
  simp [binOp, Op.shift, h]

theorem run_xor (a b : BitVec 64) : (binOp .xor t (U a) (U b)).run P w = .ok (U (a ^^^ b)) w := by
  unfold U; rw [xor_run]; show Result.ok (Value.int .u64 (IntKind.u64.wrap ((BitVec.ofInt 64 (a.toNat : Int) ^^^ BitVec.ofInt 64 (b.toNat : Int)).toNat : Int))) w = _; rw [ofU, ofU, wrapU]
theorem run_xorB (a b : BitVec 8) : (binOp .xor t (B a) (B b)).run P w = .ok (B (a ^^^ b)) w := by
  unfold B; rw [xor_run]; show Result.ok (Value.int .u8 (IntKind.u8.wrap ((BitVec.ofInt 8 (a.toNat : Int) ^^^ BitVec.ofInt 8 (b.toNat : Int)).toNat : Int))) w = _; rw [ofB, ofB, wrapB]
theorem run_xorBc (a : BitVec 8) (c : UInt8) : (binOp .xor t (B a) (.int .u8 (c.toNat : Int))).run P w = .ok (B (a ^^^ c.toBitVec)) w := run_xorB P t w a c.toBitVec
theorem run_and (a b : BitVec 64) : (binOp .and t (U a) (U b)).run P w = .ok (U (a &&& b)) w := by
  unfold U; rw [and_run]; show Result.ok (Value.int .u64 (IntKind.u64.wrap ((BitVec.ofInt 64 (a.toNat : Int) &&& BitVec.ofInt 64 (b.toNat : Int)).toNat : Int))) w = _; rw [ofU, ofU, wrapU]
theorem run_or (a b : BitVec 64) : (binOp .or t (U a) (U b)).run P w = .ok (U (a ||| b)) w := by
  unfold U; rw [or_run]; show Result.ok (Value.int .u64 (IntKind.u64.wrap ((BitVec.ofInt 64 (a.toNat : Int) ||| BitVec.ofInt 64 (b.toNat : Int)).toNat : Int))) w = _; rw [ofU, ofU, wrapU]
theorem run_add (a b : BitVec 64) : (binOp .add t (U a) (U b)).run P w = .ok (U (a + b)) w := by
  unfold U; rw [add_run, IntKind.wrap_u64, BitVec.toNat_add]
  simp only [Nat.reducePow]
  have e : ((a.toNat : Int) + b.toNat) % 18446744073709551616 = (((a.toNat + b.toNat) % 18446744073709551616 : Nat) : Int) := by omega
  rw [e]
theorem run_mul (a b : BitVec 64) : (binOp .mul t (U a) (U b)).run P w = .ok (U (a * b)) w := by
  unfold U; rw [mul_run, IntKind.wrap_u64, BitVec.toNat_mul]
  simp only [Nat.reducePow]
  rw [Int.natCast_emod, Int.natCast_mul]; rfl
theorem run_neg (a : BitVec 64) : (Op.unary .neg (U a)).run P w = .ok (U (-a)) w := by
  have h : (Op.unary .neg (U a)).run P w = .ok (.int .u64 (IntKind.u64.wrap (0 - (a.toNat : Int)))) w := by simp [U, Op.unary, Op.intArith]
  rw [h, IntKind.wrap_u64]; unfold U; rw [BitVec.toNat_neg]
  simp only [Nat.reducePow]
  have := a.isLt
  have e : (0 - (a.toNat : Int)) % 18446744073709551616 = (((18446744073709551616 - a.toNat) % 18446744073709551616 : Nat) : Int) := by omega
  rw [e]
theorem run_shr (k : Nat) (j : IntKind) (a : BitVec 64) (hk : k ≤ 64) : (binOp .shr t (U a) (.int j (k : Int))).run P w = .ok (U (a >>> k)) w := by
  unfold U
  rw [shr_run P t w .u64 j _ _ (by omega), BitVec.toNat_ushiftRight, Nat.shiftRight_eq_div_pow]
  have e : min ((k : Int).toNat) IntKind.u64.bits = k := by simp [IntKind.bits]; omega
  rw [e]
  have : ((a.toNat : Int).fdiv (2 ^ k)) = ((a.toNat / 2 ^ k : Nat) : Int) := by
    rw [Int.fdiv_eq_ediv_of_nonneg _ (by exact Int.le_of_lt (Int.pow_pos (by decide)))]
    simp
  rw [this]
theorem run_shl (k : Nat) (j : IntKind) (a : BitVec 64) (hk : k ≤ 64) : (binOp .shl t (U a) (.int j (k : Int))).run P w = .ok (U (a <<< k)) w := by
  unfold U
  rw [shl_run P t w .u64 j _ _ (by omega), IntKind.wrap_u64, BitVec.toNat_shiftLeft, Nat.shiftLeft_eq]
  have e : min ((k : Int).toNat) IntKind.u64.bits = k := by simp [IntKind.bits]; omega
  rw [e]
  simp only [Nat.reducePow]
  have : ((a.toNat : Int) * 2 ^ k) % 18446744073709551616 = (((a.toNat * 2 ^ k) % 18446744073709551616 : Nat) : Int) := by
    rw [Int.natCast_emod, Int.natCast_mul, Int.natCast_pow]; rfl
  rw [this]
theorem run_eql (a b : BitVec 64) : (binOp .eql t (U a) (U b)).run P w = .ok (.bool (a == b)) w := by
  have h : (binOp .eql t (U a) (U b)).run P w = .ok (.bool ((a.toNat : Int) == (b.toNat : Int))) w := by simp [U, binOp, Op.intCmp]
  rw [h]
  have : ((a.toNat : Int) == (b.toNat : Int)) = (a == b) := by
    rw [Bool.eq_iff_iff, beq_iff_eq, beq_iff_eq, BitVec.toNat_eq]; omega
  rw [this]
theorem run_neq (a b : BitVec 64) : (binOp .neq t (U a) (U b)).run P w = .ok (.bool (a != b)) w := by
  have h : (binOp .neq t (U a) (U b)).run P w = .ok (.bool ((a.toNat : Int) != (b.toNat : Int))) w := by simp [U, binOp, Op.intCmp]
  rw [h]
  have : ((a.toNat : Int) != (b.toNat : Int)) = (a != b) := by
    rw [Bool.eq_iff_iff, bne_iff_ne, bne_iff_ne, Ne, Ne, BitVec.toNat_eq]; omega
  rw [this]
theorem run_toByte {s d : TypeId} {ds : TypeDesc} (hs : P.underlying s = some ds) (hd : P.underlying d = some (.int .u8)) (a : BitVec 64) :
    (convert s d (U a)).run P w = .ok (B (a.setWidth 8)) w := by
  have h : (convert s d (U a)).run P w = .ok (.int .u8 (IntKind.u8.wrap (a.toNat : Int))) w := by
    simp [U, convert, run_underlying hs, run_underlying hd, Conv.intToInt]
  rw [h]; unfold B; rw [IntKind.wrap_u8', BitVec.toNat_setWidth]
  simp only [Nat.reducePow]
  have : ((a.toNat : Int) % 256) = ((a.toNat % 256 : Nat) : Int) := by omega
  rw [this]
theorem run_ofByte {s d : TypeId} {ds : TypeDesc} (hs : P.underlying s = some ds) (hd : P.underlying d = some (.int .u64)) (c : UInt8) :
    (convert s d (.int .u8 (c.toNat : Int))).run P w = .ok (U (c.toBitVec.setWidth 64)) w := by
  have h : (convert s d (.int .u8 (c.toNat : Int))).run P w = .ok (.int .u64 (IntKind.u64.wrap (c.toNat : Int))) w := by
    simp [convert, run_underlying hs, run_underlying hd, Conv.intToInt]
  rw [h]; unfold U; rw [IntKind.wrap_u64, BitVec.toNat_setWidth]
  simp only [Nat.reducePow, UInt8.toNat_toBitVec]
  have : c.toNat < 256 := c.toNat_lt
  have : ((c.toNat : Int) % 18446744073709551616) = ((c.toNat % 18446744073709551616 : Nat) : Int) := by omega
  rw [this]
theorem run_ofInt {s d : TypeId} {ds : TypeDesc} (hs : P.underlying s = some ds) (hd : P.underlying d = some (.int .u64)) (k : IntKind) (n : Int) :
    (convert s d (.int k n)).run P w = .ok (U (BitVec.ofInt 64 n)) w := by
  have h : (convert s d (.int k n)).run P w = .ok (.int .u64 (IntKind.u64.wrap n)) w := by
    simp [convert, run_underlying hs, run_underlying hd, Conv.intToInt]
  rw [h, wrapInt]; rfl
end

section
variable (P : Program) (w : World) (a : Addr) (m : Mode)
theorem run_store_U (x : BitVec 64) : (store a (U x) m).run P w = stored P w a (U x) m := run_store P w a _ m rfl
theorem cells_U (x : BitVec 64) : (U x).cells = #[U x] := rfl
theorem cells_B (x : BitVec 8) : (B x).cells = #[B x] := rfl
end
theorem eqGuard_U (P : Program) (w : World) (op : BinOp) (t : TypeId) (x y : Operand) (a : BitVec 64) (b : Value) : (eqGuard op t x y (U a) b).run P w = .ok () w := by
  unfold U eqGuard
  cases op <;> rfl
/-- the cells of such a value, as the walk opens them -/
@[go_sem] theorem match_U (x : BitVec 64) : Value.cells.match_1 (fun _ => Array Value) (U x) (fun cs => cs) (fun v => #[v]) = #[U x] := rfl
@[go_sem] theorem match_B (x : BitVec 8) : Value.cells.match_1 (fun _ => Array Value) (B x) (fun cs => cs) (fun v => #[v]) = #[B x] := rfl
theorem asIntOf_B (P : Program) (w : World) (x : BitVec 8) : (asIntOf (B x)).run P w = .ok (.u8, (x.toNat : Int)) w := rfl
theorem asIntOf_U (P : Program) (w : World) (x : BitVec 64) : (asIntOf (U x)).run P w = .ok (.u64, (x.toNat : Int)) w := rfl
end Go.Proofs.YtnoalklbgncajaaDoor.Uw
