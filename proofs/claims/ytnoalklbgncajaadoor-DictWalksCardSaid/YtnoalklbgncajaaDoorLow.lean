/- The walk of octets.Low: the number of bytes, the lowest first. -/
import Derived.Test.YtnoalklbgncajaaDoorU
import Derived.Test.YtnoalklbgncajaaDoorProg
import Derived.Lib.Hide
import Derived.KernelRfl
namespace Go.Proofs.YtnoalklbgncajaaDoor.Low
open Go.RowKit Go.Proofs.YtnoalklbgncajaaDoor.Uw

/-- a byte as a word -/
def zxw (c : UInt8) : BitVec 64 := c.toBitVec.setWidth 64
/-- the number of bytes, the lowest first -/
def lowN : List UInt8 → BitVec 64
  | [] => 0#64
  | c :: l => (lowN l <<< 8) ||| zxw c

theorem shl8 (P : Program) (t : TypeId) (w : World) (a : BitVec 64) : (binOp .shl t (U a) (.int .u64 8)).run P w = .ok (U (a <<< 8)) w := run_shl P t w 8 .u64 a (by decide)
theorem of_byte (w : World) (c : UInt8) : (convert 5 22 (.int .u8 (c.toNat : Int))).run Tryd.prog w = .ok (U (zxw c)) w :=
  run_ofByte Tryd.prog w Tryd.underlying5 Tryd.underlying22 c
attribute [local go_sem high] shl8 run_or of_byte

theorem drop_low (bs : List UInt8) (m : Nat) (h : m < bs.length) : lowN (bs.drop m) = (lowN (bs.drop (m + 1)) <<< 8) ||| zxw bs[m] := by
  rw [List.drop_eq_getElem_cons h, lowN]

set_option maxHeartbeats 400000 in
set_option maxRecDepth 100000 in
theorem low_any (g : Nat) (bs : List UInt8) (cap : Nat) (w : World) (hb : bs.length ≤ 281474976710656)
    (hc : ∀ j (h : j < bs.length), w.cell? ⟨g, j, none⟩ = some (.int .u8 (bs[j].toNat : Int))) :
    Calls Tryd.prog 48 #[.slice (some ⟨g, 0, none⟩) bs.length cap] w fun e w' => e = .returned (U (lowN bs)) ∧ w = w' := by
  have HC := Lib.hid hc
  clear hc
  go_enter Tryd.func48, Tryd.ntmps48
  go_wp2
  go_loop [2, 3] (fun v i => ∃ k : Nat, k ≤ bs.length ∧ i = .int .i64 ((k : Int) - 1) ∧ v = U (lowN (bs.drop k))) (fun _ i => ((intOf i) + 1).toNat)
  case atStart => exact ⟨bs.length, by omega, rfl, by rw [List.drop_length]; rfl⟩
  case round =>
    obtain ⟨k, hk, rfl, rfl⟩ := hrel
    cases k with
    | zero =>
      go_wp2
      go_ret
      exact ⟨rfl, rfl⟩
    | succ m =>
      have e : ((m + 1 : Nat) : Int) - 1 = (m : Int) := by omega
      rw [e]
      have hcell := HC.out m (by omega)
      have HD := Lib.hid (drop_low bs m (by omega))
      clear e
      have hlt : (m : Int) < bs.length := by omega
      go_wp2
      exact ⟨⟨m, by omega, rfl, by rw [HD.out]⟩, by simp [intOf]⟩
end Go.Proofs.YtnoalklbgncajaaDoor.Low
