/- Chapter 18: what table and the document answer of a command: the same. -/
import Derived.Test.YtpanbijlfijgfaaDoorRkey18
import Derived.Test.YtpanbijlfijgfaaDoorRnam18
namespace Go.Proofs.YtpanbijlfijgfaaDoor.Fnd
open Go Go.RowKit Go.Proofs.YtpanbijlfijgfaaDoor.Rws Go.Proofs.YtpanbijlfijgfaaDoor.Low18 Go.Proofs.YtpanbijlfijgfaaDoor.Bok
theorem hit_ex (n : ByteArray) : ∃ o, Hit n o := by
  by_cases h : ∃ k, k < 72 ∧ nm k = n
  · obtain ⟨k, h⟩ := h
    exact ⟨some k, h⟩
  · exact ⟨none, fun j hj e => h ⟨j, hj, e⟩⟩
set_option maxHeartbeats 1000000 in
set_option maxRecDepth 100000 in
theorem keys_empty (p : Option Addr) (cap : Nat) (w : World) :
    Calls Tryd.prog 7 #[.slice p 0 cap] w fun e w' => e = .returned (.slice none 0 0) ∧ Below w.heap.size w w' := by
  have HC := Lib.hid (check_empty p cap w)
  go_enter Tryd.func7, Tryd.ntmps7
  go_wp2_with fail
  refine HC.out.mono ?_
  rintro e w1 ⟨rfl, b1⟩
  have B1 := Lib.hid b1
  clear b1 HC
  unfold repV
  go_wp2_with fail
  go_ret
  exact ⟨rfl, B1.out.alloc B1.out.size _⟩
set_option maxHeartbeats 1000000 in
set_option maxRecDepth 100000 in
theorem rkeys_empty (p : Option Addr) (cap : Nat) (w : World) :
    Calls Tryd.prog 10 #[.slice p 0 cap] w fun e w' => e = .returned (.slice none 0 0) ∧ Below w.heap.size w w' := by
  have HC := Lib.hid (rcheck_empty p cap w)
  go_enter Tryd.func10, Tryd.ntmps10
  go_wp2_with fail
  refine HC.out.mono ?_
  rintro e w1 ⟨rfl, b1⟩
  have B1 := Lib.hid b1
  clear b1 HC
  unfold repV
  go_wp2_with fail
  go_ret
  exact ⟨rfl, B1.out.alloc B1.out.size _⟩
/-- what both answer of a command: an error or none, and its keys -/
structure Four (ss : List ByteArray) (t : Option ByteArray) (KL : List ByteArray) : Prop where
  chk1 : ∀ g cap W, CmdAt W g ss → ss.length ≤ cap → Calls Tryd.prog 5 #[.slice (some ⟨g, 0, none⟩) ss.length cap] W fun r w' => r = .returned (.tuple #[chkV t, .bool t.isSome]) ∧ Below W.heap.size W w'
  chk2 : ∀ p cap W, Strs W p ss → Calls Tryd.prog 6 #[.slice p ss.length cap] W fun r w' => r = .returned (.tuple #[chkV t, .bool t.isSome]) ∧ Below W.heap.size W w'
  key1 : ∀ g cap W, CmdAt W g ss → ss.length ≤ cap → Calls Tryd.prog 7 #[.slice (some ⟨g, 0, none⟩) ss.length cap] W fun e w' => (∃ v, e = .returned v ∧ w'.ownsRow W.heap.size 9 1 v KL.length (KL.map Value.string)) ∧ Below W.heap.size W w'
  key2 : ∀ p cap W, Strs W p ss → Calls Tryd.prog 10 #[.slice p ss.length cap] W fun e w' => (∃ v, e = .returned v ∧ w'.ownsRow W.heap.size 9 1 v KL.length (KL.map Value.string)) ∧ Below W.heap.size W w'
theorem keysL_len (o : Option Nat) (ss : List ByteArray) : (keysL o ss).length ≤ ss.length := by
  cases o with
  | none => exact Nat.zero_le _
  | some k =>
    rw [keys_some]
    split
    · exact Nat.zero_le _
    · split
      · exact Nat.zero_le _
      · rw [List.length_take, List.length_drop]; omega
theorem four (ss : List ByteArray) (hl : ss.length ≤ 1048576) (hb : ∀ s ∈ ss, s.size ≤ 1048576) : ∃ t KL, Four ss t KL ∧ KL.length ≤ ss.length := by
  by_cases h0 : 0 < ss.length
  · obtain ⟨o, ho⟩ := hit_ex ⟨(lowT ss[0]).toArray⟩
    have hb2 : ∀ s ∈ ss, s.size ≤ 140737488351232 := fun s hs => by have := hb s hs; omega
    have hs0 : ss[0].size ≤ 1048576 := hb _ (List.getElem_mem _)
    refine ⟨chk o ss, keysL o ss, ⟨fun g cap W hC hcap => ?_, fun p cap W hS => ?_, fun g cap W hC hcap => ?_, fun p cap W hS => ?_⟩, keysL_len o ss⟩
    · refine (check_any _ ss cap W h0 (by omega) (by omega) hb2 hC.strs).mono ?_
      rintro r w' ⟨o', h1, rfl, h2⟩
      rw [hit_one h1 ho]
      exact ⟨rfl, h2⟩
    · refine (rcheck_any p ss cap W h0 (by omega) (by omega) hb2 hS).mono ?_
      rintro r w' ⟨o', h1, rfl, h2⟩
      rw [hit_both ho h1]
      exact ⟨rfl, h2⟩
    · refine (keys_any g cap ss W h0 hl (by omega) hb2 hC hcap).mono ?_
      rintro r w' ⟨o', h1, ⟨v, rfl, h2⟩, h3⟩
      rw [hit_one h1 ho] at h2
      exact ⟨⟨v, rfl, h2⟩, h3⟩
    · refine (rkeys_any p cap ss W h0 hl hb2 hS).mono ?_
      rintro r w' ⟨o', h1, ⟨v, rfl, h2⟩, h3⟩
      rw [← hit_both ho h1] at h2
      exact ⟨⟨v, rfl, h2⟩, h3⟩
  · obtain rfl : ss = [] := List.length_eq_zero_iff.1 (by omega)
    refine ⟨some sUnk, [], ⟨fun g cap W _ _ => check_empty _ cap W, fun p cap W _ => rcheck_empty p cap W, fun g cap W _ _ => ?_, fun p cap W _ => ?_⟩, Nat.le_refl _⟩
    · refine (keys_empty _ cap W).mono ?_
      rintro e w' ⟨rfl, h⟩
      exact ⟨⟨_, rfl, World.ownsRow_nil _ _ _ _⟩, h⟩
    · refine (rkeys_empty p cap W).mono ?_
      rintro e w' ⟨rfl, h⟩
      exact ⟨⟨_, rfl, World.ownsRow_nil _ _ _ _⟩, h⟩
end Go.Proofs.YtpanbijlfijgfaaDoor.Fnd
