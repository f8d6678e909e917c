/- The walk of the statement WorldPlays: it returns true. -/
import Derived.Test.YtlbhkgdiplmgnaaTells
namespace Go.Proofs.Ytlbhkgdiplmgnaa.WorldPlays
open Go.RowKit Go.Proofs.Ytlbhkgdiplmgnaa.Pin Go.Proofs.Ytlbhkgdiplmgnaa.Wld

/-- the document's world -/
structure Rd (w : World) (c : Nat) (n d : Int) : Prop where
  c0 : w.cell? ⟨c, 0, none⟩ = some (.int .i64 n)
  c1 : w.cell? ⟨c, 1, none⟩ = some (.int .u32 d)
  f0 : w.frozen? ⟨c, 0, none⟩ = false
  f1 : w.frozen? ⟨c, 1, none⟩ = false
def toldR (w : World) (c : Nat) (n m d : Int) : World := (if n < m then w.setCell ⟨c, 0, none⟩ (.int .i64 m) else w).setCell ⟨c, 1, none⟩ (.int .u32 d)

theorem rtell_none (m d : Int) (w : World) : Calls Try.prog 10 #[.pointer none, .int .i64 m, .int .u32 d] w fun e w' => e = .returned (.int .i64 2) ∧ w = w' := by
  go_enter Try.func10, Try.ntmps10
  go_wp2
  go_ret
  exact ⟨rfl, rfl⟩
theorem rtell_bad (c : Nat) (m d : Int) (w : World) (hm : okT m = false) : Calls Try.prog 10 #[.pointer (some ⟨c, 0, none⟩), .int .i64 m, .int .u32 d] w fun e w' => e = .returned (.int .i64 1) ∧ w = w' := by
  have HM := Lib.hid hm
  clear hm
  go_enter Try.func10, Try.ntmps10
  go_wp2_with fail
  refine (time_any _ _).mono ?_
  rintro e w1 ⟨rfl, rfl⟩
  rw [HM.out]
  go_wp2_with fail
  go_ret
  exact ⟨rfl, rfl⟩
theorem rtell_good (c : Nat) (n o m d : Int) (w : World) (h : Rd w c n o) (hm : okT m = true) : Calls Try.prog 10 #[.pointer (some ⟨c, 0, none⟩), .int .i64 m, .int .u32 d] w fun e w' => e = .returned (.int .i64 0) ∧ toldR w c n m d = w' := by
  have HM := Lib.hid hm
  obtain ⟨h0, h1, h2, h3⟩ := h
  clear hm
  unfold toldR
  by_cases hlt : n < m
  · rw [if_pos hlt]
    go_enter Try.func10, Try.ntmps10
    go_wp2_with fail
    refine (time_any _ _).mono ?_
    rintro e w1 ⟨rfl, rfl⟩
    rw [HM.out]
    go_wp2_with fail
    go_ret
    exact ⟨rfl, rfl⟩
  · rw [if_neg hlt]
    go_enter Try.func10, Try.ntmps10
    go_wp2_with fail
    refine (time_any _ _).mono ?_
    rintro e w1 ⟨rfl, rfl⟩
    rw [HM.out]
    go_wp2_with fail
    go_ret
    exact ⟨rfl, rfl⟩
theorem rnow_none (w : World) : Calls Try.prog 12 #[.pointer none] w fun e w' => e = .returned (.int .i64 0) ∧ w = w' := by
  go_enter Try.func12, Try.ntmps12
  go_wp2
  go_ret
  exact ⟨rfl, rfl⟩
theorem rnow_some (c : Nat) (n d : Int) (w : World) (h : Rd w c n d) : Calls Try.prog 12 #[.pointer (some ⟨c, 0, none⟩)] w fun e w' => e = .returned (.int .i64 n) ∧ w = w' := by
  obtain ⟨h0, h1, h2, h3⟩ := h
  go_enter Try.func12, Try.ntmps12
  go_wp2
  go_ret
  exact ⟨rfl, rfl⟩
theorem rdraw_none (w : World) : Calls Try.prog 14 #[.pointer none] w fun e w' => e = .returned (.int .u32 0) ∧ w = w' := by
  go_enter Try.func14, Try.ntmps14
  go_wp2
  go_ret
  exact ⟨rfl, rfl⟩
theorem rdraw_some (c : Nat) (n d : Int) (w : World) (h : Rd w c n d) : Calls Try.prog 14 #[.pointer (some ⟨c, 0, none⟩)] w fun e w' => e = .returned (.int .u32 d) ∧ w = w' := by
  obtain ⟨h0, h1, h2, h3⟩ := h
  go_enter Try.func14, Try.ntmps14
  go_wp2
  go_ret
  exact ⟨rfl, rfl⟩
theorem rnew_bad (n : Int) (w : World) (h : okT n = false) : Calls Try.prog 8 #[.int .i64 n] w fun e w' => e = .returned (.tuple #[.pointer none, .int .i64 1]) ∧ w = w' := by
  have H := Lib.hid h
  clear h
  go_enter Try.func8, Try.ntmps8
  go_wp2_with fail
  refine (time_any _ _).mono ?_
  rintro e w1 ⟨rfl, rfl⟩
  rw [H.out]
  go_wp2_with fail
  go_ret2
  exact ⟨rfl, rfl⟩
def bornR (w : World) (n : Int) : World := w.alloc (.cells #[.int .i64 n, .int .u32 0] 55)
theorem rnew_good (n : Int) (w : World) (h : okT n = true) : Calls Try.prog 8 #[.int .i64 n] w fun e w' => e = .returned (.tuple #[.pointer (some ⟨w.heap.size, 0, none⟩), .int .i64 0]) ∧ bornR w n = w' := by
  have H := Lib.hid h
  clear h
  go_enter Try.func8, Try.ntmps8
  go_wp2_with fail
  refine (time_any _ _).mono ?_
  rintro e w1 ⟨rfl, rfl⟩
  rw [H.out]
  go_wp2_with fail
  go_ret2
  exact ⟨rfl, rfl⟩
theorem bornR_rd (w : World) (n : Int) : Rd (bornR w n) w.heap.size n 0 := by
  constructor <;> unfold bornR <;> go_simp
theorem bornR_wd {w : World} {b : Nat} {n o : Int} (m : Int) (h : Wd w b n o) (hb : b < w.heap.size) : Wd (bornR w m) b n o := by
  obtain ⟨h0, h1, h2, h3, h4⟩ := h
  constructor <;> unfold bornR <;> go_simp
theorem Rd.drewN {w : World} {b : Nat} {n o : Int} (h : Rd w b n o) (k : Nat) : Rd (w.drewN k) b n o := ⟨h.c0, h.c1, h.f0, h.f1⟩
theorem Rd.told {w : World} {c : Nat} {n o : Int} (h : Rd w c n o) (m d : Int) : Rd (toldR w c n m d) c (max m n) d := by
  obtain ⟨h0, h1, h2, h3⟩ := h
  unfold toldR
  by_cases hlt : n < m
  · rw [if_pos hlt, Int.max_eq_left (by omega)]
    constructor <;> go_simp
  · rw [if_neg hlt, Int.max_eq_right (by omega)]
    constructor <;> go_simp
/-- telling one world leaves the other -/
theorem Rd.other {w : World} {b c : Nat} {n o : Int} (h : Rd w c n o) (hc : ¬ c = b) (m d : Int) : Rd (Wld.told w b m d) c n o := by
  obtain ⟨h0, h1, h2, h3⟩ := h
  constructor <;> unfold Wld.told <;> go_simp
theorem cell_toldR {w : World} {c : Nat} {n m d : Int} {g i : Nat} (hg : ¬ g = c) : (toldR w c n m d).cell? ⟨g, i, none⟩ = w.cell? ⟨g, i, none⟩ := by
  unfold toldR
  split <;> go_simp
theorem frozen_toldR {w : World} {c : Nat} {n m d : Int} {g i : Nat} : (toldR w c n m d).frozen? ⟨g, i, none⟩ = w.frozen? ⟨g, i, none⟩ := by
  unfold toldR
  split <;> go_simp
theorem Wd.otherR {w : World} {b c : Nat} {n o : Int} (h : Wd w b n o) (hc : ¬ b = c) (k m d : Int) : Wd (toldR w c k m d) b n o := by
  obtain ⟨h0, h1, h2, h3, h4⟩ := h
  constructor <;> first | rw [cell_toldR hc]; assumption | rw [frozen_toldR]; assumption
theorem below_toldR {B c : Nat} {a w : World} (h : Below B a w) (hb : B ≤ c) (n m d : Int) : Below B a (toldR w c n m d) := by
  unfold toldR
  split
  · exact (h.setCell hb _).setCell hb _
  · exact h.setCell hb _
theorem toldR_drewN (w : World) (c : Nat) (n m d : Int) (k : Nat) : toldR (w.drewN k) c n m d = (toldR w c n m d).drewN k := by
  unfold toldR
  split <;> rfl
theorem cell_told {w : World} {b : Nat} {m d : Int} {g i : Nat} (hg : ¬ g = b) : (told w b m d).cell? ⟨g, i, none⟩ = w.cell? ⟨g, i, none⟩ := by
  unfold told
  go_simp
end Go.Proofs.Ytlbhkgdiplmgnaa.WorldPlays
