/- Each method of a disk that is not there: a nil one, and a zero one; and the document's at nil. Printed by gen_gone04.py. -/
import Derived.Test.YtjjcicfilbfbjaaPin2
import Derived.Test.YtjjcicfilbfbjaaProg
import Derived.WalkKit
import Derived.WalkSpells
import Derived.WalkLawsBesides
import Derived.KernelRfl
import Derived.Lib.Hide
import Derived.Below
import Derived.Lib.AtoiErrMem
namespace Go.Proofs.Ytjjcicfilbfbjaa.Gon
open Go.RowKit

/-- a disk that is not there -/
def Gone (w : World) (d : Value) : Prop := d = .pointer none ∨ ∃ g, d = .pointer (some ⟨g, 0, none⟩) ∧ w.cell? ⟨g, 2, none⟩ = some (.map none)
theorem Gone.drewN {w : World} {d : Value} (h : Gone w d) (n : Nat) : Gone (w.drewN n) d := h
theorem Gone.below {w w' : World} {d : Value} (h : Gone w d) (hb : Below w.heap.size w w') : Gone w' d := by
  rcases h with h | ⟨g, h, hc⟩
  · exact .inl h
  · exact .inr ⟨g, h, (hb.cell (p := ⟨g, 2, none⟩) (Lib.lt_of_cell hc)).trans hc⟩
set_option maxRecDepth 100000 in
theorem gone_any (d : Value) (w : World) (h : Gone w d) : Calls Try.prog 24 #[d] w fun e w' => e = .returned (.bool true) ∧ w = w' := by
  rcases h with rfl | ⟨g, rfl, hc⟩
  · go_enter Try.func24, Try.ntmps24
    go_wp2
    go_ret
    exact ⟨rfl, rfl⟩
  · have qM := fun (w : World) (r : Option Nat) => run_eql_map_nil (P := Try.prog) w 56 _ _ r Try.underlying56
    go_enter Try.func24, Try.ntmps24
    go_wp2
    go_ret
    exact ⟨rfl, rfl⟩
theorem find_gone (d : Value) (a : ByteArray) (w : World) (h : Gone w d) : Calls Try.prog 26 #[d, .string a] w fun e w' => e = .returned (.tuple #[.pointer none, .int .i64 2]) ∧ w = w' := by
  have HG := Lib.hid (gone_any d w h)
  clear h
  go_enter Try.func26, Try.ntmps26
  go_wp2_with fail
  refine HG.out.mono ?_
  rintro e w' ⟨rfl, rfl⟩
  go_wp2_with fail
  go_ret2
  exact ⟨rfl, rfl⟩

theorem append_gone (d : Value) (a b : ByteArray) (w : World) (h : Gone w d) : Calls Try.prog 9 #[d, .string a, .string b] w fun e w' => e = .returned (.int .i64 2) ∧ w = w' := by
  have HG := Lib.hid (gone_any d w h)
  clear h
  go_enter Try.func9, Try.ntmps9
  go_wp2_with fail
  refine HG.out.mono ?_
  rintro e w' ⟨rfl, rfl⟩
  go_wp2_with fail
  go_ret
  exact ⟨rfl, rfl⟩

theorem sync_gone (d : Value) (a : ByteArray) (w : World) (h : Gone w d) : Calls Try.prog 11 #[d, .string a] w fun e w' => e = .returned (.int .i64 2) ∧ w = w' := by
  have HG := Lib.hid (find_gone d a w h)
  clear h
  go_enter Try.func11, Try.ntmps11
  go_wp2_with fail
  refine HG.out.mono ?_
  rintro e w' ⟨rfl, rfl⟩
  go_wp2_with fail
  go_ret
  exact ⟨rfl, rfl⟩

theorem rename_gone (d : Value) (a b : ByteArray) (w : World) (h : Gone w d) : Calls Try.prog 18 #[d, .string a, .string b] w fun e w' => e = .returned (.int .i64 2) ∧ w = w' := by
  have HG := Lib.hid (find_gone d a w h)
  clear h
  go_enter Try.func18, Try.ntmps18
  go_wp2_with fail
  refine HG.out.mono ?_
  rintro e w' ⟨rfl, rfl⟩
  go_wp2_with fail
  go_ret
  exact ⟨rfl, rfl⟩

theorem remove_gone (d : Value) (a : ByteArray) (w : World) (h : Gone w d) : Calls Try.prog 36 #[d, .string a] w fun e w' => e = .returned (.int .i64 2) ∧ w = w' := by
  have HG := Lib.hid (find_gone d a w h)
  clear h
  go_enter Try.func36, Try.ntmps36
  go_wp2_with fail
  refine HG.out.mono ?_
  rintro e w' ⟨rfl, rfl⟩
  go_wp2_with fail
  go_ret
  exact ⟨rfl, rfl⟩

theorem cut_gone (d : Value) (a : ByteArray) (n : Int) (w : World) (h : Gone w d) : Calls Try.prog 38 #[d, .string a, .int .i64 n] w fun e w' => e = .returned (.int .i64 2) ∧ w = w' := by
  have HG := Lib.hid (find_gone d a w h)
  clear h
  go_enter Try.func38, Try.ntmps38
  go_wp2_with fail
  refine HG.out.mono ?_
  rintro e w' ⟨rfl, rfl⟩
  go_wp2_with fail
  go_ret
  exact ⟨rfl, rfl⟩

theorem read_gone (d : Value) (a : ByteArray) (w : World) (h : Gone w d) : Calls Try.prog 13 #[d, .string a] w fun e w' => e = .returned (.tuple #[.string ⟨#[]⟩, .int .i64 2]) ∧ w = w' := by
  have HG := Lib.hid (find_gone d a w h)
  clear h
  go_enter Try.func13, Try.ntmps13
  go_wp2_with fail
  refine HG.out.mono ?_
  rintro e w' ⟨rfl, rfl⟩
  go_wp2_with fail
  go_ret2
  exact ⟨rfl, rfl⟩

theorem names_gone (d : Value)  (w : World) (h : Gone w d) : Calls Try.prog 20 #[d] w fun e w' => e = .returned (.slice none 0 0) ∧ w = w' := by
  have HG := Lib.hid (gone_any d w h)
  clear h
  go_enter Try.func20, Try.ntmps20
  go_wp2_with fail
  refine HG.out.mono ?_
  rintro e w' ⟨rfl, rfl⟩
  go_wp2_with fail
  go_ret
  exact ⟨rfl, rfl⟩

theorem size_gone (d : Value) (a : ByteArray) (w : World) (h : Gone w d) : Calls Try.prog 14 #[d, .string a] w fun e w' => e = .returned (.tuple #[.int .i64 0, .int .i64 0, .int .i64 2]) ∧ w = w' := by
  have HG := Lib.hid (find_gone d a w h)
  clear h
  go_enter Try.func14, Try.ntmps14
  go_wp2_with fail
  refine HG.out.mono ?_
  rintro e w' ⟨rfl, rfl⟩
  go_wp2_with fail
  go_ret3
  exact ⟨rfl, rfl⟩

theorem fail_gone (d : Value) (n : Int) (w : World) (h : Gone w d) : Calls Try.prog 17 #[d, .int .i64 n] w fun e w' => e = .returned (.int .i64 2) ∧ Below w.heap.size w w' := by
  have HG := Lib.hid (fun w' (hb : Below w.heap.size w w') => gone_any d w' (h.below hb))
  clear h
  go_enter Try.func17, Try.ntmps17
  go_wp2_with fail
  refine (HG.out _ ((Below.refl _ w).alloc (Nat.le_refl _) _)).mono ?_
  rintro e w' ⟨rfl, rfl⟩
  go_wp2_with fail
  go_ret
  exact ⟨rfl, (Below.refl _ w).alloc (Nat.le_refl _) _⟩

theorem crash_gone (d : Value) (p : Option Addr) (n c : Nat) (w : World) (h : Gone w d) : Calls Try.prog 12 #[d, .slice p n c] w fun e w' => e = .returned (.int .i64 2) ∧ w = w' := by
  have HG := Lib.hid (gone_any d w h)
  clear h
  go_enter Try.func12, Try.ntmps12
  go_wp2_with fail
  refine HG.out.mono ?_
  rintro e w' ⟨rfl, rfl⟩
  go_wp2_with fail
  go_ret
  exact ⟨rfl, rfl⟩

theorem append_nil (a b : ByteArray) (w : World) : Calls Try.prog 33 #[.pointer none, .string a, .string b] w fun e w' => e = .returned (.int .i64 2) ∧ w = w' := by
  go_enter Try.func33, Try.ntmps33
  go_wp2
  go_ret
  exact ⟨rfl, rfl⟩

theorem sync_nil (a : ByteArray) (w : World) : Calls Try.prog 34 #[.pointer none, .string a] w fun e w' => e = .returned (.int .i64 2) ∧ w = w' := by
  go_enter Try.func34, Try.ntmps34
  go_wp2
  go_ret
  exact ⟨rfl, rfl⟩

theorem rename_nil (a b : ByteArray) (w : World) : Calls Try.prog 35 #[.pointer none, .string a, .string b] w fun e w' => e = .returned (.int .i64 2) ∧ w = w' := by
  go_enter Try.func35, Try.ntmps35
  go_wp2
  go_ret
  exact ⟨rfl, rfl⟩

theorem remove_nil (a : ByteArray) (w : World) : Calls Try.prog 37 #[.pointer none, .string a] w fun e w' => e = .returned (.int .i64 2) ∧ w = w' := by
  go_enter Try.func37, Try.ntmps37
  go_wp2
  go_ret
  exact ⟨rfl, rfl⟩

theorem cut_nil (a : ByteArray) (n : Int) (w : World) : Calls Try.prog 39 #[.pointer none, .string a, .int .i64 n] w fun e w' => e = .returned (.int .i64 2) ∧ w = w' := by
  go_enter Try.func39, Try.ntmps39
  go_wp2
  go_ret
  exact ⟨rfl, rfl⟩

theorem read_nil (a : ByteArray) (w : World) : Calls Try.prog 44 #[.pointer none, .string a] w fun e w' => e = .returned (.tuple #[.string ⟨#[]⟩, .int .i64 2]) ∧ w = w' := by
  go_enter Try.func44, Try.ntmps44
  go_wp2
  go_ret2
  exact ⟨rfl, rfl⟩

theorem names_nil  (w : World) : Calls Try.prog 45 #[.pointer none] w fun e w' => e = .returned (.slice none 0 0) ∧ w = w' := by
  go_enter Try.func45, Try.ntmps45
  go_wp2
  go_ret
  exact ⟨rfl, rfl⟩

theorem size_nil (a : ByteArray) (w : World) : Calls Try.prog 46 #[.pointer none, .string a] w fun e w' => e = .returned (.tuple #[.int .i64 0, .int .i64 0, .int .i64 2]) ∧ w = w' := by
  go_enter Try.func46, Try.ntmps46
  go_wp2
  go_ret3
  exact ⟨rfl, rfl⟩

theorem fail_nil (n : Int) (w : World) : Calls Try.prog 40 #[.pointer none, .int .i64 n] w fun e w' => e = .returned (.int .i64 2) ∧ w = w' := by
  go_enter Try.func40, Try.ntmps40
  go_wp2
  go_ret
  exact ⟨rfl, rfl⟩

theorem crash_nil (p : Option Addr) (n c : Nat) (w : World) : Calls Try.prog 42 #[.pointer none, .slice p n c] w fun e w' => e = .returned (.int .i64 2) ∧ w = w' := by
  go_enter Try.func42, Try.ntmps42
  go_wp2
  go_ret
  exact ⟨rfl, rfl⟩

end Go.Proofs.Ytjjcicfilbfbjaa.Gon
