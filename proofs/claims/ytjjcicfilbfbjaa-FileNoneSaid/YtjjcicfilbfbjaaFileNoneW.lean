/- The walk of the statement FileNone: it returns true. -/
import Derived.Test.YtjjcicfilbfbjaaAsked04
import Derived.Deep.WholeRow
namespace Go.Proofs.Ytjjcicfilbfbjaa.FileNone
open Go.RowKit Go.Proofs.Ytjjcicfilbfbjaa.Pin Go.Proofs.Ytjjcicfilbfbjaa.Gon

/-- the op's block -/
def OpAt (w : World) (g : Nat) (kd : Int) (a b : ByteArray) (n : Int) (p : Option Addr) (k c : Nat) : Prop := w.heap[g]? = some (.cells (opC kd a b n p k c) 52 (0, 0))
theorem OpAt.cells {w : World} {g : Nat} {kd : Int} {a b : ByteArray} {n : Int} {p : Option Addr} {k c : Nat} (h : OpAt w g kd a b n p k c) :
    w.cell? ⟨g, 0, none⟩ = some (.int .u8 kd) ∧ w.cell? ⟨g, 1, none⟩ = some (.string a) ∧ w.cell? ⟨g, 2, none⟩ = some (.string b) ∧ w.cell? ⟨g, 3, none⟩ = some (.int .i64 n) ∧ w.cell? ⟨g, 4, none⟩ = some (.slice p k c) ∧ g < w.heap.size := by
  refine ⟨?_, ?_, ?_, ?_, ?_, (Array.getElem?_eq_some_iff.1 h).1⟩ <;> (rw [Lib.cell_of_heap h]; rfl)
theorem OpAt.below {w w' : World} {g : Nat} {kd : Int} {a b : ByteArray} {n : Int} {p : Option Addr} {k c : Nat} (h : OpAt w g kd a b n p k c) (hb : Below w.heap.size w w') : OpAt w' g kd a b n p k c :=
  (hb.block _ (Array.getElem?_eq_some_iff.1 h).1).trans h

set_option maxHeartbeats 2000000 in
set_option maxRecDepth 100000 in
theorem walk (kd : Int) (a b : ByteArray) (n : Int) (p : Option Addr) (k c : Nat) (A : Nat → Int) (w : World) (ha : a.size ≤ 140737488351232) (hb : b.size ≤ 140737488351232) (hk : k ≤ 140737488351232) (hI : Ints w p k A) :
    Calls Try.prog 6 #[opV kd a b n p k c] w fun e w' => e = .returned (.bool true) ∧ Below w.heap.size w w' := by
  obtain ⟨W0, hW0⟩ : ∃ W0, W0 = (w.alloc (.cells (opC kd a b n p k c) 52)).alloc (.cells (opC kd a b n p k c) 52) := ⟨_, rfl⟩
  have B0 : Hid (Below w.heap.size w W0) := Lib.hid (by rw [hW0]; exact ((Below.refl _ w).alloc (Nat.le_refl _) _).alloc (by simp) _)
  have O0 : Hid (OpAt W0 w.heap.size kd a b n p k c) := Lib.hid (by rw [hW0]; show _ = _; rw [Lib.alloc_old _ _ _ (by simp)]; exact heap_alloc_last w _)
  have O1 : OpAt W0 (w.heap.size + 1) kd a b n p k c := by
    rw [hW0]
    have := heap_alloc_last (w.alloc (.cells (opC kd a b n p k c) 52)) (.cells (opC kd a b n p k c) 52)
    have e : (w.alloc (.cells (opC kd a b n p k c) 52)).heap.size = w.heap.size + 1 := by simp
    rw [e] at this
    exact this
  have HI := Lib.hid (hI.below (B0.out))
  obtain ⟨c0, c1, c2, c3, c4, c5⟩ := O1.cells
  have HBy := Lib.hid (beyond_one (w.heap.size + 1) a b p k c W0 ha hb hk c1 c2 c4)
  have HW0 := Lib.hid hW0
  clear hW0 O1 c0 c1 c2 c3 c4 c5 hI
  go_enter Try.func6, Try.ntmps6
  go_wp2_with fail
  rw [← HW0.out]
  refine HBy.out.mono ?_
  rintro e w1 ⟨rfl, m, rfl⟩
  by_cases hbig : 1048576 < 1 + a.size + b.size + k
  · have hdec : decide (1048576 < 1 + a.size + b.size + k) = true := by simpa using hbig
    rw [hdec]
    clear hdec hbig
    go_wp2_with fail
    go_ret
    exact ⟨rfl, below_drewN B0.out m⟩
  · have hdec : decide (1048576 < 1 + a.size + b.size + k) = false := by simpa using hbig
    rw [hdec]
    have hk2 : k ≤ 1048576 := by omega
    clear hdec hbig
    have ba : Below W0.heap.size W0 ((W0.alloc (.cells #[.int .i64 0, .int .i64 0, .map none, .nilFunc, .nilFunc] 58)).drewN m) := below_drewN ((Below.refl _ W0).alloc (Nat.le_refl _) _) m
    have B2 := Lib.hid (B0.out.trans (ba.mono B0.out.size))
    have O2 := Lib.hid (O0.out.below ba)
    have I2 := Lib.hid (HI.out.below ba)
    have G2 : Hid (Gone ((W0.alloc (.cells #[.int .i64 0, .int .i64 0, .map none, .nilFunc, .nilFunc] 58)).drewN m) (.pointer (some ⟨W0.heap.size, 0, none⟩))) := Lib.hid (.inr ⟨_, rfl, by go_simp⟩)
    obtain ⟨k0, k1, k2, k3, k4, klt⟩ := O0.out.cells
    clear ba HBy HI
    go_wp2_with fail
    refine (asked_gone (.pointer none) kd a b n p k c A _ hk2 I2.out (.inl rfl)).mono ?_
    rintro e w3 ⟨rfl, b3⟩
    have B3 := Lib.hid (B2.out.trans (b3.mono B2.out.size))
    have O3 := Lib.hid (O2.out.below b3)
    have I3 := Lib.hid (I2.out.below b3)
    have G3 := Lib.hid (G2.out.below b3)
    clear b3 B2 O2 I2 G2 k0 k1 k2 k3 k4 klt
    obtain ⟨k0, k1, k2, k3, k4, klt⟩ := O3.out.cells
    go_wp2_with fail
    refine (asked_gone (.pointer (some ⟨W0.heap.size, 0, none⟩)) kd a b n p k c A _ hk2 I3.out G3.out).mono ?_
    rintro e w4 ⟨rfl, b4⟩
    have B4 := Lib.hid (B3.out.trans (b4.mono B3.out.size))
    have O4 := Lib.hid (O3.out.below b4)
    have G4 := Lib.hid (G3.out.below b4)
    clear b4 B3 O3 I3 G3 k0 k1 k2 k3 k4 klt
    obtain ⟨k0, k1, k2, k3, k4, klt⟩ := O4.out.cells
    go_wp2_with fail
    refine (looks_gone (.pointer none) kd a b n p k c _ (.inl rfl)).mono ?_
    rintro e w5 ⟨rfl, b5⟩
    have B5 := Lib.hid (B4.out.trans (b5.mono B4.out.size))
    have O5 := Lib.hid (O4.out.below b5)
    have G5 := Lib.hid (G4.out.below b5)
    clear b5 B4 O4 G4 k0 k1 k2 k3 k4 klt
    obtain ⟨k0, k1, k2, k3, k4, klt⟩ := O5.out.cells
    go_wp2_with fail
    refine (looks_gone (.pointer (some ⟨W0.heap.size, 0, none⟩)) kd a b n p k c _ G5.out).mono ?_
    rintro e w6 ⟨rfl, b6⟩
    have B6 := Lib.hid (B5.out.trans (b6.mono B5.out.size))
    clear b6 B5 O5 G5 k0 k1 k2 k3 k4 klt
    go_wp2_with fail
    go_ret
    exact ⟨rfl, B6.out⟩
end Go.Proofs.Ytjjcicfilbfbjaa.FileNone
