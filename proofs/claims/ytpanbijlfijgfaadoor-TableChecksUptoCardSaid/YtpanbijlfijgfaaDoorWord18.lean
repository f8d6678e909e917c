/- A book's marks for texts: a word for each number. -/
import Derived.Test.YtpanbijlfijgfaaDoorItoaD18
import Derived.Test.YtpanbijlfijgfaaDoorBkM
import Derived.Test.YtpanbijlfijgfaaDoorPin2
import Derived.Lib.Hide
import Derived.WalkKit
import Derived.LoopTactic
import Derived.WalkLawsBesides
import Derived.Deep.WholeRow
import Derived.Deep.MidRow
namespace Go.Proofs.YtpanbijlfijgfaaDoor.Bok
open Go Go.RowKit Go.Proofs.YtpanbijlfijgfaaDoor.Pin
/-- the word of a number -/
def wordT (n : Nat) : ByteArray := (⟨#[35]⟩ : ByteArray) ++ ⟨(Lib.decDigits n).toArray⟩
theorem digits_few (n : Nat) (hn : n < 100) : (Lib.decDigits n).length ≤ 2 := by
  have h : (List.range 100).all (fun n => decide ((Lib.decDigits n).length ≤ 2)) = true := by decide +kernel
  have := List.all_eq_true.1 h n (List.mem_range.2 hn)
  simpa using this
theorem word_any (n : Nat) (hn : n < 100) (w : World) : Calls Tryd.prog 79 #[.int .i64 (n : Int)] w fun e w' => e = .returned (.string (wordT n)) ∧ w = w' := by
  have HI := Lib.hid (fun w => Shf.strconv_Itoa_small n hn w)
  have hl := digits_few n hn
  have hl2 : ¬ (9223372036854775807 < 1 + (Lib.decDigits n).length) := by omega
  clear hl
  go_enter Tryd.func79, Tryd.ntmps79
  go_wp2_with fail
  refine (HI.out _).mono ?_
  rintro e w' ⟨rfl, rfl⟩
  go_wp2_with fail
  go_ret
  exact ⟨rfl, rfl⟩
theorem mark_text (n : Nat) (hn : n < 100) (w : World) : Calls Tryd.prog 61 #[.int .i64 (n : Int)] w fun e w' => e = .returned (.string (wordT n)) ∧ w = w' := by
  have HI := Lib.hid (fun w => word_any n hn w)
  go_enter Tryd.func61, Tryd.ntmps61
  go_wp2_with fail
  refine (HI.out _).mono ?_
  rintro e w' ⟨rfl, rfl⟩
  go_wp2_with fail
  go_ret
  exact ⟨rfl, rfl⟩
theorem is_text (n : Nat) (hn : n < 100) (w : World) : Calls Tryd.prog 70 #[.string (wordT n), .int .i64 (n : Int)] w fun e w' => e = .returned (.bool true) ∧ w = w' := by
  have HI := Lib.hid (fun w => word_any n hn w)
  obtain ⟨s, hs⟩ : ∃ s, s = wordT n := ⟨_, rfl⟩
  rw [← hs] at HI ⊢
  clear hs
  have hq : (s.toList == s.toList) = true := by simp
  go_enter Tryd.func70, Tryd.ntmps70
  go_wp2_with fail
  refine (HI.out _).mono ?_
  rintro e w' ⟨rfl, rfl⟩
  go_wp2_with fail
  go_ret
  exact ⟨rfl, rfl⟩
end Go.Proofs.YtpanbijlfijgfaaDoor.Bok
