/- Chapter 3: what the functions of a world do, each a contract. -/
import Derived.Test.YtlbhkgdiplmgnaaProg
import Derived.Test.YtlbhkgdiplmgnaaPin
import Derived.WalkKit
import Derived.KernelRfl
import Derived.Lib.Hide
import Derived.Lib.MinMax
import Derived.Laws.LoneSync
namespace Go.Proofs.Ytlbhkgdiplmgnaa.Wld
open Go.RowKit Go.Proofs.Ytlbhkgdiplmgnaa.Pin

/-- may this time be? -/
def okT (n : Int) : Bool := decide (0 ≤ n) && decide (n ≤ 9007199254740992)
/-- the world at block b is made, and holds time n and draw d -/
structure Wd (w : World) (b : Nat) (n d : Int) : Prop where
  c0 : w.cell? ⟨b, 0, none⟩ = some (.bool true)
  c1 : w.cell? ⟨b, 1, none⟩ = some (.int .i64 n)
  c2 : w.cell? ⟨b, 2, none⟩ = some (.int .u32 d)
  f1 : w.frozen? ⟨b, 1, none⟩ = false
  f2 : w.frozen? ⟨b, 2, none⟩ = false

set_option maxHeartbeats 400000 in
theorem good_any (n : Int) (w : World) : Calls Try.prog 18 #[.int .i64 n] w fun e w' => e = .returned (.bool (okT n)) ∧ w = w' := by
  by_cases h0 : 0 ≤ n
  · by_cases h1 : n ≤ 9007199254740992
    · have hr : okT n = true := by simp [okT, h0, h1]
      rw [hr]
      go_enter Try.func18, Try.ntmps18
      go_wp2
      go_ret
      exact ⟨rfl, rfl⟩
    · have hr : okT n = false := by simp [okT, h1]
      rw [hr]
      go_enter Try.func18, Try.ntmps18
      go_wp2
      go_ret
      exact ⟨rfl, rfl⟩
  · have hr : okT n = false := by simp [okT, h0]
    rw [hr]
    go_enter Try.func18, Try.ntmps18
    go_wp2
    go_ret
    exact ⟨rfl, rfl⟩
theorem time_any (n : Int) (w : World) : Calls Try.prog 20 #[.int .i64 n] w fun e w' => e = .returned (.bool (okT n)) ∧ w = w' := by
  by_cases h0 : 0 ≤ n
  · by_cases h1 : n ≤ 9007199254740992
    · have hr : okT n = true := by simp [okT, h0, h1]
      rw [hr]
      go_enter Try.func20, Try.ntmps20
      go_wp2
      go_ret
      exact ⟨rfl, rfl⟩
    · have hr : okT n = false := by simp [okT, h1]
      rw [hr]
      go_enter Try.func20, Try.ntmps20
      go_wp2
      go_ret
      exact ⟨rfl, rfl⟩
  · have hr : okT n = false := by simp [okT, h0]
    rw [hr]
    go_enter Try.func20, Try.ntmps20
    go_wp2
    go_ret
    exact ⟨rfl, rfl⟩

theorem there_none (w : World) : Calls Try.prog 21 #[.pointer none] w fun e w' => e = .returned (.bool false) ∧ w = w' := by
  go_enter Try.func21, Try.ntmps21
  go_wp2
  go_ret
  exact ⟨rfl, rfl⟩
theorem there_some (b : Nat) (m : Bool) (w : World) (h : w.cell? ⟨b, 0, none⟩ = some (.bool m)) :
    Calls Try.prog 21 #[.pointer (some ⟨b, 0, none⟩)] w fun e w' => e = .returned (.bool m) ∧ w = w' := by
  go_enter Try.func21, Try.ntmps21
  go_wp2
  go_ret
  exact ⟨rfl, rfl⟩

theorem store64 (b k : Nat) (n m : Int) (w : World) (h : w.cell? ⟨b, k, none⟩ = some (.int .i64 n)) (hz : w.frozen? ⟨b, k, none⟩ = false) :
    Calls Try.prog 19 #[.pointer (some ⟨b, k, none⟩), .int .i64 m] w fun e w' => e = .returned (.tuple #[]) ∧ w.setCell ⟨b, k, none⟩ (.int .i64 m) = w' := by
  have hs := run_call_store (P := Try.prog) Try.func25 (by kernel_rfl) (by kernel_rfl) (by kernel_rfl) (by kernel_rfl) (k := .i64) (y := m) h hz
  go_enter Try.func19, Try.ntmps19
  go_wp2
  go_end0
  exact ⟨rfl, rfl⟩
theorem load64 (b k : Nat) (n : Int) (w : World) (h : w.cell? ⟨b, k, none⟩ = some (.int .i64 n)) :
    Calls Try.prog 22 #[.pointer (some ⟨b, k, none⟩)] w fun e w' => e = .returned (.int .i64 n) ∧ w = w' := by
  have hs := run_call_load (P := Try.prog) Try.func26 (by kernel_rfl) (by kernel_rfl) (by kernel_rfl) .i64 (by kernel_rfl) h
  go_enter Try.func22, Try.ntmps22
  go_wp2
  go_ret
  exact ⟨rfl, rfl⟩
theorem store32 (b k : Nat) (n m : Int) (w : World) (h : w.cell? ⟨b, k, none⟩ = some (.int .u32 n)) (hz : w.frozen? ⟨b, k, none⟩ = false) :
    Calls Try.prog 23 #[.pointer (some ⟨b, k, none⟩), .int .u32 m] w fun e w' => e = .returned (.tuple #[]) ∧ w.setCell ⟨b, k, none⟩ (.int .u32 m) = w' := by
  have hs := run_call_store (P := Try.prog) Try.func27 (by kernel_rfl) (by kernel_rfl) (by kernel_rfl) (by kernel_rfl) (k := .u32) (y := m) h hz
  go_enter Try.func23, Try.ntmps23
  go_wp2
  go_end0
  exact ⟨rfl, rfl⟩
theorem load32 (b k : Nat) (n : Int) (w : World) (h : w.cell? ⟨b, k, none⟩ = some (.int .u32 n)) :
    Calls Try.prog 24 #[.pointer (some ⟨b, k, none⟩)] w fun e w' => e = .returned (.int .u32 n) ∧ w = w' := by
  have hs := run_call_load (P := Try.prog) Try.func28 (by kernel_rfl) (by kernel_rfl) (by kernel_rfl) .u32 (by kernel_rfl) h
  go_enter Try.func24, Try.ntmps24
  go_wp2
  go_ret
  exact ⟨rfl, rfl⟩
end Go.Proofs.Ytlbhkgdiplmgnaa.Wld
