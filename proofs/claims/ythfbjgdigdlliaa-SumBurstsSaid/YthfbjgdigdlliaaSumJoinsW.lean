/- The walk of the statement SumJoins: it returns true. -/
import Derived.Test.YthfbjgdigdlliaaAlive02
import Derived.Test.YthfbjgdigdlliaaSumHashesW
namespace Go.Proofs.Ythfbjgdigdlliaa.SumJoins
open Go.RowKit Go.Proofs.Ythfbjgdigdlliaa.Uw Go.Proofs.Ythfbjgdigdlliaa.Sum Go.Proofs.Ythfbjgdigdlliaa.Bey Go.Proofs.Ythfbjgdigdlliaa.Alive Go.Proofs.Ythfbjgdigdlliaa.SumHashes
attribute [local go_sem high] run_eql eqGuard_U

theorem two_le (n m : Nat) (h : n ≤ 140737488351232) (h' : m ≤ 140737488351232) : ∀ x ∈ [(n : Int), (m : Int)], 0 ≤ x ∧ x ≤ 281474976710656 := by
  intro x hx
  simp at hx
  omega
theorem beyond_two (n m : Nat) (w : World) (h : n ≤ 140737488351232) (h' : m ≤ 140737488351232) :
    Calls Try.prog 7 #[.slice (some ⟨w.heap.size, 0, none⟩) 2 2] (w.alloc (.cells #[.int .i64 (n : Int), .int .i64 (m : Int)] 3)) fun e w' => e = .returned (.bool (beyond 0 [(n : Int), (m : Int)])) ∧ w.alloc (.cells #[.int .i64 (n : Int), .int .i64 (m : Int)] 3) = w' :=
  beyond_any [(n : Int), (m : Int)] 2 w.heap.size _ (by simp) (two_le n m h h') (fun j hj => by
    have : j = 0 ∨ j = 1 := by simp at hj; omega
    rcases this with rfl | rfl <;> simp)
theorem two_small (n m : Nat) (h : beyond 0 [(n : Int), (m : Int)] = false) : n + m ≤ 1048576 := by
  simp only [beyond] at h
  split at h
  · cases h
  · split at h
    · cases h
    · omega

theorem crc_join (b : BitVec 64) (l m : List UInt8) : crcT (crcT b l) m = crcT b (l ++ m) := by unfold crcT; rw [List.foldl_append]

theorem cat_list (s t : ByteArray) : (s ++ t).data.toList = s.data.toList ++ t.data.toList := by simp
theorem cat_size (s t : ByteArray) : (s ++ t).size = s.size + t.size := by simp
theorem crc_cat (s t : ByteArray) (w : World) (h : s.size + t.size ≤ 1048576) :
    Calls Try.prog 8 #[.string (s ++ t)] w fun e w' => e = .returned (U (crcT (crcT 0#64 s.data.toList) t.data.toList)) ∧ Below w.heap.size w w' := by
  have hc := crc_any (s ++ t) w (by rw [cat_size]; unfold maxLen; omega)
  rw [cat_list, ← crc_join] at hc
  exact hc
theorem more_cat (b : BitVec 64) (s t : ByteArray) (w : World) (h : s.size + t.size ≤ 1048576) :
    Calls Try.prog 10 #[U b, .string (s ++ t)] w fun e w' => e = .returned (U (crcT (crcT b s.data.toList) t.data.toList)) ∧ Below w.heap.size w w' := by
  have hc := more_any b (s ++ t) w (by rw [cat_size]; unfold maxLen; omega)
  rw [cat_list, ← crc_join] at hc
  exact hc
theorem more_nil (b : BitVec 64) (w : World) : Calls Try.prog 10 #[U b, .string ⟨#[]⟩] w fun e w' => e = .returned (U b) ∧ Below w.heap.size w w' :=
  more_any b ⟨#[]⟩ w (by decide)

set_option maxHeartbeats 1000000 in
set_option maxRecDepth 100000 in
theorem walk0 (s t : ByteArray) (b : BitVec 64) (w : World) (hs : s.size ≤ 140737488351232) (ht : t.size ≤ 140737488351232) :
    Calls Try.prog 5 #[.string s, .string t, U b] w fun e w' => e = .returned (.bool true) ∧ Below w.heap.size w w' := by
  have HB := Lib.hid (fun w => beyond_two s.size t.size w hs ht)
  cases hbey : beyond 0 [(s.size : Int), (t.size : Int)] with
  | true =>
    have H1 := Lib.hid hbey
    clear hbey
    go_enter Try.func5, Try.ntmps5
    go_wp2_with fail
    refine (alive_any w).mono ?_
    rintro e w1 ⟨rfl, b1⟩
    go_wp2_with fail
    refine (HB.out w1).mono ?_
    rintro e w' ⟨rfl, rfl⟩
    rw [H1.out]
    go_wp2_with fail
    have b2 := b1.trans (((Below.refl _ w1).alloc (Nat.le_refl _) (.cells #[.int .i64 (s.size : Int), .int .i64 (t.size : Int)] 3)).mono b1.size)
    refine (alive_any _).mono ?_
    rintro e w3 ⟨rfl, b3⟩
    go_wp2_with fail
    go_ret
    exact ⟨rfl, b2.trans (b3.mono b2.size)⟩
  | false =>
    have hsm := two_small _ _ hbey
    have H1 := Lib.hid hbey
    clear hbey
    go_enter Try.func5, Try.ntmps5
    go_wp2_with fail
    refine (alive_any w).mono ?_
    rintro e w1 ⟨rfl, b1⟩
    go_wp2_with fail
    refine (HB.out w1).mono ?_
    rintro e w' ⟨rfl, rfl⟩
    rw [H1.out]
    have b2 := b1.trans (((Below.refl _ w1).alloc (Nat.le_refl _) (.cells #[.int .i64 (s.size : Int), .int .i64 (t.size : Int)] 3)).mono b1.size)
    obtain ⟨W, hW⟩ : ∃ W, W = w1.alloc (.cells #[.int .i64 (s.size : Int), .int .i64 (t.size : Int)] 3) := ⟨_, rfl⟩
    rw [← hW] at b2 ⊢
    clear hW b1
    go_wp2_with fail
    refine (crc_any s _ (by unfold maxLen; omega)).mono ?_
    rintro e w3 ⟨rfl, b3⟩
    replace b3 := b2.trans (b3.mono b2.size)
    clear b2
    go_wp2_with fail
    refine (more_any _ t _ (by unfold maxLen; omega)).mono ?_
    rintro e w4 ⟨rfl, b4⟩
    replace b4 := b3.trans (b4.mono b3.size)
    clear b3
    go_wp2_with fail
    refine (crc_cat s t _ hsm).mono ?_
    rintro e w5 ⟨rfl, b5⟩
    replace b5 := b4.trans (b5.mono b4.size)
    clear b4
    go_wp2_with fail
    refine (more_any b s _ (by unfold maxLen; omega)).mono ?_
    rintro e w6 ⟨rfl, b6⟩
    replace b6 := b5.trans (b6.mono b5.size)
    clear b5
    go_wp2_with fail
    refine (more_any _ t _ (by unfold maxLen; omega)).mono ?_
    rintro e w7 ⟨rfl, b7⟩
    replace b7 := b6.trans (b7.mono b6.size)
    clear b6
    go_wp2_with fail
    refine (more_cat b s t _ hsm).mono ?_
    rintro e w8 ⟨rfl, b8⟩
    replace b8 := b7.trans (b8.mono b7.size)
    clear b7
    go_wp2_with fail
    refine (more_nil b _).mono ?_
    rintro e w9 ⟨rfl, b9⟩
    replace b9 := b8.trans (b9.mono b8.size)
    clear b8
    go_wp2_with fail
    go_ret
    exact ⟨by simp, b9⟩

theorem walk (s : ByteArray) (hs : s.size ≤ 140737488351232) (t : ByteArray) (ht : t.size ≤ 140737488351232) (b : Int) (hb : (Lit.int .u64 b).wf = true) (w : World) :
    Calls Try.prog 5 #[.string s, .string t, .int .u64 b] w fun e w' => e = .returned (.bool true) ∧ Below w.heap.size w w' := by
  rw [U_int b (wf_u64 hb)]
  exact walk0 s t _ w hs ht
end Go.Proofs.Ythfbjgdigdlliaa.SumJoins
