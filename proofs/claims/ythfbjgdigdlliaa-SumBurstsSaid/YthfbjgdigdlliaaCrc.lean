/- The walks of sum.More, sum.CRC64 and of the document's two: both are the shift register over the bytes. -/
import Derived.Test.YthfbjgdigdlliaaTab
namespace Go.Proofs.Ythfbjgdigdlliaa.Sum
open Go.RowKit Go.Proofs.Ythfbjgdigdlliaa.Uw

theorem take_snoc (s : ByteArray) (k : Nat) (h : k < s.size) : s.data.toList.take (k + 1) = s.data.toList.take k ++ [s[k]] := by
  rw [List.take_succ_eq_append_getElem (by simpa using h)]; rfl
theorem crcT_snoc (s : BitVec 64) (l : List UInt8) (c : UInt8) : crcT s (l ++ [c]) = tstep (crcT s l) c := by simp [crcT]
theorem crcR_snoc (s : BitVec 64) (l : List UInt8) (c : UInt8) : crcR s (l ++ [c]) = riter 8 (crcR s l ^^^ zx c) := by simp [crcR]
theorem take_all (s : ByteArray) : s.data.toList.take s.size = s.data.toList := List.take_of_length_le (by simp)

section
variable (P : Program) (t : TypeId) (w : World)
theorem rem2 (a : BitVec 64) : (binOp .rem t (U a) (.int .u64 2)).run P w = .ok (U (a % 2#64)) w := by
  have h : (binOp .rem t (U a) (.int .u64 2)).run P w = .ok (.int .u64 ((a.toNat : Int).tmod 2)) w := by simp [U, binOp, Op.intDiv]
  rw [h]; unfold U
  have e : ((a.toNat : Int).tmod 2) = ((a % 2#64).toNat : Int) := by
    rw [BitVec.toNat_umod, Int.tmod_eq_emod_of_nonneg (by omega)]; simp
  rw [e]
theorem quo2 (a : BitVec 64) : (binOp .quo t (U a) (.int .u64 2)).run P w = .ok (U (a >>> 1)) w := by
  have h : (binOp .quo t (U a) (.int .u64 2)).run P w = .ok (.int .u64 (IntKind.u64.wrap ((a.toNat : Int).tdiv 2))) w := by simp [U, binOp, Op.intDiv]
  rw [h]; unfold U
  have e : IntKind.u64.wrap ((a.toNat : Int).tdiv 2) = ((a >>> 1).toNat : Int) := by
    rw [BitVec.toNat_ushiftRight, Nat.shiftRight_eq_div_pow, Int.tdiv_eq_ediv_of_nonneg (by omega), IntKind.wrap_u64]
    have := a.isLt
    omega
  rw [e]
theorem eq1 (a : BitVec 64) : (binOp .eql t (U a) (.int .u64 1)).run P w = .ok (.bool (a == 1#64)) w := run_eql P t w a 1#64
theorem xorPoly (a : BitVec 64) : (binOp .xor t (U a) (.int .u64 10785157014839085493)).run P w = .ok (U (a ^^^ poly)) w := run_xor P t w a poly
end
theorem to_byte (w : World) (a : BitVec 64) : (convert 22 5 (U a)).run Try.prog w = .ok (B (a.setWidth 8)) w :=
  run_toByte Try.prog w Try.underlying22 Try.underlying5 a
theorem of_byte (w : World) (c : UInt8) : (convert 5 22 (.int .u8 (c.toNat : Int))).run Try.prog w = .ok (U (zx c)) w :=
  run_ofByte Try.prog w Try.underlying5 Try.underlying22 c
/-- a byte's number, closed to the walk -/
def nB (x : BitVec 8) : Nat := x.toNat
theorem idx_row (w : World) (g : Nat) (x : BitVec 8) : (Instr.indexAt 35 (.pointer (some ⟨g, 0, none⟩)) (B x)).run Try.prog w = .ok (.pointer (some ⟨g, nB x, none⟩)) w := by
  unfold nB
  have hx : x.toNat < 256 := x.isLt
  have ha : (⟨g, 0, none⟩ : Addr).add x.toNat = ⟨g, x.toNat, none⟩ := by unfold Addr.add; split <;> simp_all
  unfold Instr.indexAt
  simp [asIntOf_B, run_underlying Try.underlying35, Instr.sureAddr, ha]
  omega

attribute [local go_sem high] shr8 run_xor run_xorB run_xorBc to_byte of_byte idx_row rem2 quo2 eq1 xorPoly eqGuard_U

theorem IsTab.at_ {C : Array Value} (h : IsTab C) (x : BitVec 8) : C[nB x]? = some (U (tb x.toNat)) := h.2 _ x.isLt


theorem setRow2 (w : World) (o : Obj) (c c' : Array Value) (t : TypeId) : ((w.alloc o).alloc (.cells c t)).setRow (w.heap.size + 1) c' = (w.alloc o).alloc (.cells c' t) := by
  have h := World.setRow_alloc_new (w.alloc o) c c' t
  simpa using h

set_option maxHeartbeats 400000 in
set_option maxRecDepth 100000 in
theorem more_any (s : BitVec 64) (b : ByteArray) (w : World) (hs : b.size ≤ maxLen) :
    Calls Try.prog 10 #[U s, .string b] w fun e w' => e = .returned (U (crcT s b.data.toList)) ∧ Below w.heap.size w w' := by
  unfold maxLen at hs
  go_enter Try.func10, Try.ntmps10
  go_wp2_with fail
  refine (table_any _).mono ?_
  rintro e w' ⟨C, hC, rfl, rfl⟩
  have hz := zero_row
  go_wp2_with (refine wpList_store_row rfl 35 (.tmp 5) (.tmp 7) rfl (w.alloc (.cells C 35)).heap.size C (by simp [Act.eval]) rfl 35 zeros (heap_alloc_new _ _) (by rw [hC.1.1]; exact info_row) (by rw [hC.1.1]; exact zeros_size) hC.1.2 ?_)
  rw [setRow2]
  have hat := hC.at_
  go_loop [0, 10] (fun v i => ∃ k : Nat, k ≤ b.size ∧ i = .int .i64 k ∧ v = U (crcT s (b.data.toList.take k))) (fun _ i => b.size - (intOf i).toNat)
  case atStart => exact ⟨0, by omega, rfl, rfl⟩
  case round =>
    obtain ⟨k, hk, rfl, rfl⟩ := hrel
    by_cases hlt : k < b.size
    · have HS := Lib.hid (take_snoc b k hlt)
      have HC := Lib.hid (crcT_snoc s (b.data.toList.take k) b[k])
      go_wp2
      exact ⟨⟨k + 1, by omega, by go_num, by rw [HS.out, HC.out]; rfl⟩, by simp [intOf]; omega⟩
    · have e : k = b.size := by omega
      subst e
      have HT := Lib.hid (take_all b)
      go_wp2
      go_ret
      exact ⟨by first | rfl | (rw [HT.out]; rfl), ((Below.refl _ _).alloc (Nat.le_refl _) _).alloc (by simp) _⟩

set_option maxHeartbeats 400000 in
set_option maxRecDepth 100000 in
theorem refMore_any (s : BitVec 64) (b : ByteArray) (w : World) (hs : b.size ≤ maxLen) :
    Calls Try.prog 11 #[U s, .string b] w fun e w' => e = .returned (U (crcR s b.data.toList)) ∧ w = w' := by
  unfold maxLen at hs
  go_enter Try.func11, Try.ntmps11
  go_wp2
  go_loop [5, 6] (fun v i => ∃ k : Nat, k ≤ b.size ∧ i = .int .i64 k ∧ v = U (crcR s (b.data.toList.take k))) (fun _ i => b.size - (intOf i).toNat)
  case atStart => exact ⟨0, by omega, rfl, rfl⟩
  case round =>
    obtain ⟨k, hk, rfl, rfl⟩ := hrel
    by_cases hlt : k < b.size
    · have HS := Lib.hid (take_snoc b k hlt)
      have HC := Lib.hid (crcR_snoc s (b.data.toList.take k) b[k])
      go_wp2
      go_loop [5, 7] (fun c v => ∃ m : Nat, m ≤ 8 ∧ v = .int .i64 m ∧ c = U (riter m (crcR s (b.data.toList.take k) ^^^ zx b[k]))) (fun _ v => 8 - (intOf v).toNat)
      case atStart => exact ⟨0, by omega, rfl, rfl⟩
      case round =>
        obtain ⟨m, hm, rfl, rfl⟩ := hrel
        go_wp2
        all_goals first
          | (exact ⟨⟨m + 1, by omega, by go_num, by simp only [riter, rstep, *]; rfl⟩, by simp [intOf]; omega⟩)
          | skip
        have e : m = 8 := by omega
        subst e
        exact ⟨⟨k + 1, by omega, by go_num, by rw [HS.out, HC.out]⟩, by simp [intOf]; omega⟩
    · have e : k = b.size := by omega
      subst e
      have HT := Lib.hid (take_all b)
      go_wp2
      go_ret
      exact ⟨by first | rfl | (rw [HT.out]; rfl), rfl⟩

theorem zero_U : Value.int .u64 0 = U 0#64 := rfl

set_option maxHeartbeats 400000 in
theorem crc_any (b : ByteArray) (w : World) (hs : b.size ≤ maxLen) :
    Calls Try.prog 8 #[.string b] w fun e w' => e = .returned (U (crcT 0#64 b.data.toList)) ∧ Below w.heap.size w w' := by
  go_enter Try.func8, Try.ntmps8
  go_wp2_with (go_at_call 10; rw [zero_U]; refine (more_any _ _ _ hs).mono ?_; rintro e w' ⟨rfl, hb⟩)
  go_ret
  exact ⟨rfl, hb⟩

set_option maxHeartbeats 400000 in
theorem refCrc_any (b : ByteArray) (w : World) (hs : b.size ≤ maxLen) :
    Calls Try.prog 9 #[.string b] w fun e w' => e = .returned (U (crcR 0#64 b.data.toList)) ∧ w = w' := by
  go_enter Try.func9, Try.ntmps9
  go_wp2_with (go_at_call 11; rw [zero_U]; refine (refMore_any _ _ _ hs).mono ?_; rintro e w' ⟨rfl, rfl⟩)
  go_ret
  exact ⟨rfl, rfl⟩

end Go.Proofs.Ythfbjgdigdlliaa.Sum
