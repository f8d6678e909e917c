/- Chapter 07: Reverse64 and next walked. -/
import Derived.Test.YtnoalklbgncajaaDoorRv07
namespace Go.Proofs.YtnoalklbgncajaaDoor.Dct
open Go Go.MapKept Go.RowKit Go.Proofs.YtnoalklbgncajaaDoor.Pin Go.Proofs.YtnoalklbgncajaaDoor.Mps Go.Proofs.YtnoalklbgncajaaDoor.Bok Go.Proofs.YtnoalklbgncajaaDoor.Uw Go.Proofs.YtnoalklbgncajaaDoor.Sip
attribute [local go_sem high] run_store_U cells_U eqGuard_U asIntOf_U run_or
set_option maxRecDepth 100000 in
theorem revb_any (x : BitVec 64) (w : World) : Calls Tryd.prog 46 #[U x] w fun e w' => e = .returned (U (swp (swp (swp x 8 71777214294589695#64) 16 281470681808895#64) 32 4294967295#64)) ∧ w = w' := by
  have hs8 : ∀ (w : World) (t : TypeId) (a : BitVec 64), (binOp .shr t (U a) (.int .u64 8)).run Tryd.prog w = .ok (U (a >>> 8)) w := fun w t a => run_shr Tryd.prog t w 8 .u64 a (by omega)
  have hl8 : ∀ (w : World) (t : TypeId) (a : BitVec 64), (binOp .shl t (U a) (.int .u64 8)).run Tryd.prog w = .ok (U (a <<< 8)) w := fun w t a => run_shl Tryd.prog t w 8 .u64 a (by omega)
  have ha8 : ∀ (w : World) (t : TypeId) (a : BitVec 64), (binOp .and t (U a) (.int .u64 71777214294589695)).run Tryd.prog w = .ok (U (a &&& 71777214294589695#64)) w := fun w t a => run_and Tryd.prog t w a 71777214294589695#64
  have hs16 : ∀ (w : World) (t : TypeId) (a : BitVec 64), (binOp .shr t (U a) (.int .u64 16)).run Tryd.prog w = .ok (U (a >>> 16)) w := fun w t a => run_shr Tryd.prog t w 16 .u64 a (by omega)
  have hl16 : ∀ (w : World) (t : TypeId) (a : BitVec 64), (binOp .shl t (U a) (.int .u64 16)).run Tryd.prog w = .ok (U (a <<< 16)) w := fun w t a => run_shl Tryd.prog t w 16 .u64 a (by omega)
  have ha16 : ∀ (w : World) (t : TypeId) (a : BitVec 64), (binOp .and t (U a) (.int .u64 281470681808895)).run Tryd.prog w = .ok (U (a &&& 281470681808895#64)) w := fun w t a => run_and Tryd.prog t w a 281470681808895#64
  have hs32 : ∀ (w : World) (t : TypeId) (a : BitVec 64), (binOp .shr t (U a) (.int .u64 32)).run Tryd.prog w = .ok (U (a >>> 32)) w := fun w t a => run_shr Tryd.prog t w 32 .u64 a (by omega)
  have hl32 : ∀ (w : World) (t : TypeId) (a : BitVec 64), (binOp .shl t (U a) (.int .u64 32)).run Tryd.prog w = .ok (U (a <<< 32)) w := fun w t a => run_shl Tryd.prog t w 32 .u64 a (by omega)
  go_enter Tryd.func46, Tryd.ntmps46
  go_wp2_with fail
  go_ret
  rw [← swp_last]
  exact ⟨rfl, rfl⟩
set_option maxRecDepth 100000 in
theorem rev_any (x : BitVec 64) (w : World) : Calls Tryd.prog 29 #[U x] w fun e w' => e = .returned (U x.reverse) ∧ w = w' := by
  have HB := Lib.hid (fun y => revb_any y w)
  have hs1 : ∀ (w : World) (t : TypeId) (a : BitVec 64), (binOp .shr t (U a) (.int .u64 1)).run Tryd.prog w = .ok (U (a >>> 1)) w := fun w t a => run_shr Tryd.prog t w 1 .u64 a (by omega)
  have hl1 : ∀ (w : World) (t : TypeId) (a : BitVec 64), (binOp .shl t (U a) (.int .u64 1)).run Tryd.prog w = .ok (U (a <<< 1)) w := fun w t a => run_shl Tryd.prog t w 1 .u64 a (by omega)
  have ha1 : ∀ (w : World) (t : TypeId) (a : BitVec 64), (binOp .and t (U a) (.int .u64 6148914691236517205)).run Tryd.prog w = .ok (U (a &&& 6148914691236517205#64)) w := fun w t a => run_and Tryd.prog t w a 6148914691236517205#64
  have hs2 : ∀ (w : World) (t : TypeId) (a : BitVec 64), (binOp .shr t (U a) (.int .u64 2)).run Tryd.prog w = .ok (U (a >>> 2)) w := fun w t a => run_shr Tryd.prog t w 2 .u64 a (by omega)
  have hl2 : ∀ (w : World) (t : TypeId) (a : BitVec 64), (binOp .shl t (U a) (.int .u64 2)).run Tryd.prog w = .ok (U (a <<< 2)) w := fun w t a => run_shl Tryd.prog t w 2 .u64 a (by omega)
  have ha2 : ∀ (w : World) (t : TypeId) (a : BitVec 64), (binOp .and t (U a) (.int .u64 3689348814741910323)).run Tryd.prog w = .ok (U (a &&& 3689348814741910323#64)) w := fun w t a => run_and Tryd.prog t w a 3689348814741910323#64
  have hs4 : ∀ (w : World) (t : TypeId) (a : BitVec 64), (binOp .shr t (U a) (.int .u64 4)).run Tryd.prog w = .ok (U (a >>> 4)) w := fun w t a => run_shr Tryd.prog t w 4 .u64 a (by omega)
  have hl4 : ∀ (w : World) (t : TypeId) (a : BitVec 64), (binOp .shl t (U a) (.int .u64 4)).run Tryd.prog w = .ok (U (a <<< 4)) w := fun w t a => run_shl Tryd.prog t w 4 .u64 a (by omega)
  have ha4 : ∀ (w : World) (t : TypeId) (a : BitVec 64), (binOp .and t (U a) (.int .u64 1085102592571150095)).run Tryd.prog w = .ok (U (a &&& 1085102592571150095#64)) w := fun w t a => run_and Tryd.prog t w a 1085102592571150095#64
  go_enter Tryd.func29, Tryd.ntmps29
  go_wp2_with fail
  refine (HB.out _).mono ?_
  rintro e w' ⟨rfl, rfl⟩
  go_wp2_with fail
  go_ret
  rw [← revP_eq]
  exact ⟨rfl, rfl⟩
theorem not_U (m : Nat) : Value.int .u64 (Go.bits BinOp.xor IntKind.u64 IntKind.u64.max (m : Int)) = U (~~~(BitVec.ofNat 64 m)) := by
  have h1 : BitVec.ofInt 64 IntKind.u64.max = BitVec.allOnes 64 := by decide
  have h2 : BitVec.ofInt 64 (m : Int) = BitVec.ofNat 64 m := BitVec.ofInt_natCast 64 m
  have h3 : BitVec.allOnes 64 ^^^ BitVec.ofNat 64 m = ~~~(BitVec.ofNat 64 m) := BitVec.allOnes_xor
  have h4 : Go.bits BinOp.xor IntKind.u64 IntKind.u64.max (m : Int) = IntKind.u64.wrap ((BitVec.ofInt 64 IntKind.u64.max ^^^ BitVec.ofInt 64 (m : Int)).toNat : Int) := rfl
  rw [h4, h1, h2, h3, wrapU]
  rfl
set_option maxRecDepth 100000 in
theorem next_any (v : BitVec 64) (n : Nat) (hn : 0 < n) (hn2 : n ≤ 1099511627776) (w : World) : Calls Tryd.prog 24 #[U v, .int .i64 (n : Int)] w fun e w' => e = .returned (U (nextP v n)) ∧ w = w' := by
  obtain ⟨m, rfl⟩ : ∃ m, n = m + 1 := ⟨n - 1, by omega⟩
  have e1 : ((m + 1 : Nat) : Int) - 1 = (m : Int) := by omega
  have HP : Hid (nextP v (m + 1) = ((v ||| ~~~(BitVec.ofNat 64 m)).reverse + 1#64).reverse) := Lib.hid rfl
  have HB := Lib.hid (fun y => rev_any y w)
  have hor : ∀ (w : World) (t : TypeId), (binOp .or t (U v) (Value.int .u64 (Go.bits BinOp.xor IntKind.u64 IntKind.u64.max (m : Int)))).run Tryd.prog w = .ok (U (v ||| ~~~(BitVec.ofNat 64 m))) w := fun w t => by rw [not_U m]; exact run_or Tryd.prog t w v _
  have had : ∀ (w : World) (t : TypeId) (a : BitVec 64), (binOp .add t (U a) (.int .u64 1)).run Tryd.prog w = .ok (U (a + 1#64)) w := fun w t a => run_add Tryd.prog t w a 1#64
  go_enter Tryd.func24, Tryd.ntmps24
  go_wp2_with fail
  refine (HB.out _).mono ?_
  rintro e w' ⟨rfl, rfl⟩
  go_wp2_with fail
  refine (HB.out _).mono ?_
  rintro e w' ⟨rfl, rfl⟩
  go_wp2_with fail
  go_ret
  rw [HP.out]
  exact ⟨rfl, rfl⟩
end Go.Proofs.YtnoalklbgncajaaDoor.Dct
