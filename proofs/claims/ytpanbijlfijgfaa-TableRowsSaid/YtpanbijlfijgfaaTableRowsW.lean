/- The walk of the statement TableRows: it returns true. -/
import Derived.Test.YtpanbijlfijgfaaLives18
import Derived.Test.YtpanbijlfijgfaaNames18
import Derived.WalkLawsBesides
import Derived.Test.YtpanbijlfijgfaaPin2
namespace Go.Proofs.Ytpanbijlfijgfaa.TableRows
open Go.RowKit Go.Proofs.Ytpanbijlfijgfaa.Fnd Go.Proofs.Ytpanbijlfijgfaa.Rws Go.Proofs.Ytpanbijlfijgfaa.Low18 Go.Proofs.Ytpanbijlfijgfaa.Pin

theorem low_names : (List.range 72).all (fun k => lowL (nm k).data.toList == (nm k).data.toList) = true := by kernel_rfl
theorem hit_nm (k : Nat) (hk : k < 72) : Hit ⟨(lowT (nm k)).toArray⟩ (some k) := by
  refine ⟨hk, ?_⟩
  rcases low_text (nm k) with ⟨_, h⟩ | h
  · have h1 := List.all_eq_true.1 names_low k (List.mem_range.2 hk)
    have h2 := List.all_eq_true.1 low_names k (List.mem_range.2 hk)
    rw [beq_iff_eq] at h2
    rw [h2] at h
    obtain ⟨c, hc, hh⟩ := h
    have h3 := List.all_eq_true.1 h1 c hc
    simp at h3
    omega
  · have h2 := List.all_eq_true.1 low_names k (List.mem_range.2 hk)
    rw [beq_iff_eq] at h2
    rw [h, h2]
theorem small_names : (List.range 72).all (fun k => decide ((nm k).size ≤ 100)) = true := by kernel_rfl
theorem nm_small (k : Nat) (hk : k < 72) : (nm k).size ≤ 100 := by simpa using List.all_eq_true.1 small_names k (List.mem_range.2 hk)
theorem find_nm (k : Nat) (hk : k < 72) (w : World) : Calls Try.prog 6 #[.string (nm k)] w fun e w' => e = .returned (.tuple #[specV k, .bool true]) ∧ Below w.heap.size w w' :=
  (find_all (nm k) w (by have := nm_small k hk; omega)).mono fun e w' ⟨o, ho, he, hb⟩ => by obtain rfl := hit_one ho (hit_nm k hk); exact ⟨he, hb⟩
noncomputable def goodRow (k : Nat) : Bool :=
  decide (1 ≤ iv k 1) && decide (iv k 1 ≤ iv k 2) && decide (iv k 2 ≤ 1024) && (!(bv k 4) || bv k 3) && (!decide (iv k 5 = 0) || decide (iv k 6 = 0)) && decide (iv k 5 < iv k 1)
theorem good_rows : (List.range 72).all goodRow = true := by kernel_rfl
theorem good_row (k : Nat) (hk : k < 72) : 1 ≤ iv k 1 ∧ iv k 1 ≤ iv k 2 ∧ iv k 2 ≤ 1024 ∧ (bv k 4 = false ∨ (bv k 4 = true ∧ bv k 3 = true)) ∧ (¬ iv k 5 = 0 ∨ (iv k 5 = 0 ∧ iv k 6 = 0)) ∧ iv k 5 < iv k 1 := by
  have h := List.all_eq_true.1 good_rows k (List.mem_range.2 hk)
  simp only [goodRow, Bool.and_eq_true, Bool.or_eq_true, Bool.not_eq_true', decide_eq_true_eq, decide_eq_false_iff_not] at h
  obtain ⟨⟨⟨⟨⟨h1, h2⟩, h3⟩, h4⟩, h5⟩, h6⟩ := h
  refine ⟨h1, h2, h3, ?_, ?_, h6⟩
  · cases h7 : bv k 4 with
    | false => exact .inl rfl
    | true => exact .inr ⟨rfl, h4.resolve_left (by rw [h7]; decide)⟩
  · by_cases h7 : iv k 5 = 0
    · exact .inr ⟨h7, h5.resolve_left (fun h => h h7)⟩
    · exact .inl h7
theorem row_any (k : Nat) (hk : k < 72) : ∃ (x : ByteArray) (i1 i2 i5 i6 i8 : Int) (b3 b4 b7 : Bool), nm k = x ∧ (∀ w, Calls Try.prog 6 #[.string x] w fun e w' => e = .returned (.tuple #[.agg #[.string x, .int .i64 i1, .int .i64 i2, .bool b3, .bool b4, .int .i64 i5, .int .i64 i6, .bool b7, .int .i64 i8], .bool true]) ∧ Below w.heap.size w w') ∧
    1 ≤ i1 ∧ i1 ≤ i2 ∧ i2 ≤ 1024 ∧ (b4 = false ∨ (b4 = true ∧ b3 = true)) ∧ (¬ i5 = 0 ∨ (i5 = 0 ∧ i6 = 0)) ∧ i5 < i1 :=
  ⟨nm k, iv k 1, iv k 2, iv k 5, iv k 6, iv k 8, bv k 3, bv k 4, bv k 7, rfl, fun w => find_nm k hk w, good_row k hk⟩
/-- the names' block -/
theorem nms_len (k : Nat) : (nms k).length = k := by simp [nms]
theorem own_get {w : World} {B : Nat} {v : Value} (h : w.ownsRow B 9 1 v 72 (nms 72)) : ∃ g cap, v = .slice (some ⟨g, 0, none⟩) 72 cap ∧ B ≤ g ∧ g < w.heap.size ∧ ∀ k, k < 72 → w.cell? ⟨g, k, none⟩ = some (.string (nm k)) := by
  rcases h.2 with ⟨_, h0⟩ | ⟨g, cap, cur, rfl, hb, hg, _, _, _, _⟩
  · omega
  · refine ⟨g, cap, rfl, hb, (Array.getElem?_eq_some_iff.1 hg).1, fun k hk => ?_⟩
    have := h.cells (g := g) rfl k (.string (nm k)) (by simp [nms, hk])
    simp only [Addr.add_lit, Nat.zero_add] at this
    exact this

/-- a name and so many empty texts -/
def longS (x : ByteArray) (m : Nat) : List ByteArray := x :: List.replicate m ⟨#[]⟩
theorem longS_len (x : ByteArray) (m : Nat) : (longS x m).length = m + 1 := by simp [longS]
theorem longS_zero (x : ByteArray) (m : Nat) : (longS x m)[0]'(by rw [longS_len]; omega) = x := rfl
theorem longS_strs (x : ByteArray) (m : Nat) {w : World} {B g : Nat} (h : w.ownsRow B 9 1 (.slice (some ⟨g, 0, none⟩) (m + 1) (m + 1)) (m + 1) (List.replicate (m + 1) (.string ⟨#[]⟩))) :
    Strs (w.setCell ⟨g, 0, none⟩ (.string (x))) (some ⟨g, 0, none⟩) (longS x m) := by
  have h2 := (h.stored 0 (.string (x))).1
  intro i hi
  have hi2 := hi
  rw [longS_len] at hi2
  refine ⟨g, 0, rfl, (h2.lt g rfl).2, ?_⟩
  have h3 := h2.cells (g := g) rfl i (.string (longS x m)[i]) (by
    rw [List.replicate_succ, List.set_cons_zero]
    match i, hi, hi2 with
    | 0, _, _ =>
      have e : (longS x m)[0] = x := longS_zero x m
      rw [e, List.getElem?_cons_zero]
    | i + 1, _, hi2 =>
      have e : (longS x m)[i + 1] = ⟨#[]⟩ := by show (List.replicate m (⟨#[]⟩ : ByteArray))[i]'_ = _; exact List.getElem_replicate ..
      rw [e, List.getElem?_cons_succ, List.getElem?_replicate, if_pos (by omega)])
  simp only [Addr.add_lit, Nat.zero_add] at h3 ⊢
  exact h3
theorem check_long (j m : Nat) (hj : j < 72) (hm : iv j 2 = (m : Int)) (hm2 : m ≤ 1024) (g : Nat) (w : World) (hS : Strs w (some ⟨g, 0, none⟩) (longS (nm j) m)) :
    Calls Try.prog 10 #[.slice (some ⟨g, 0, none⟩) (m + 1) (m + 1)] w fun e w' => e = .returned (.tuple #[repV 2 sWrong, .bool true]) ∧ Below w.heap.size w w' := by
  have hb : ∀ s ∈ longS (nm j) m, s.size ≤ 100 := by
    intro s hs
    rcases List.mem_cons.1 hs with h | hs
    · rw [h]; exact nm_small j hj
    · rw [(List.mem_replicate.1 hs).2]; exact Nat.zero_le _
  have hl := longS_len (nm j) m
  have h := check_any (some ⟨g, 0, none⟩) (longS (nm j) m) (m + 1) w (by omega) (by omega) (by rw [longS_zero]; have := nm_small j hj; omega) (fun s hs => by have := hb s hs; omega) hS
  rw [longS_zero] at h
  have h' : Calls Try.prog 10 #[.slice (some ⟨g, 0, none⟩) (m + 1) (m + 1)] w fun r w' => ∃ o, Hit ⟨(lowT (nm j)).toArray⟩ o ∧ r = .returned (.tuple #[chkV (chk o (longS (nm j) m)), .bool (chk o (longS (nm j) m)).isSome]) ∧ Below w.heap.size w w' := by
    rw [← hl]; rw [hl] at h ⊢; exact h
  refine h'.mono fun e w' ⟨o, ho, he, hw⟩ => ?_
  obtain rfl := hit_one ho (hit_nm j hj)
  have hc : chk (some j) (longS (nm j) m) = some sWrong := by
    have hbad : badL j (longS (nm j) m).length = true := by
      rw [longS_len]
      unfold badL
      rw [hm]
      simp only [Bool.or_eq_true, decide_eq_true_eq]
      exact .inl (.inl (.inr (by omega)))
    show (if badL j (longS (nm j) m).length = true then some sWrong else if ((longS (nm j) m).any (fun s => decide (65536 < s.size))) = true then some sSize else none) = some sWrong
    rw [if_pos hbad]
  rw [hc] at he
  exact ⟨he, hw⟩

set_option maxHeartbeats 40000000 in
set_option maxRecDepth 100000 in
theorem walk (n : Int) (w : World) :
    Calls Try.prog 5 #[.int .i64 n] w fun e w' => e = .returned (.bool true) ∧ Below w.heap.size w w' := by
  go_enter Try.func5, Try.ntmps5
  go_wp2_with fail
  refine (names_any _).mono ?_
  rintro e w1 ⟨v, rfl, hown, b1⟩
  obtain ⟨g, cap, rfl, hBg, hg, hc⟩ := own_get hown
  have HC := Lib.hid hc
  have B1 := Lib.hid b1
  clear hown hc b1
  go_wp2_with fail
  go_loopw [4] (fun i wr => ∃ (k : Nat), k ≤ 72 ∧ i = .int .i64 k ∧ Hid (Below w1.heap.size w1 wr)) (fun i _ => 72 - (intOf i).toNat)
  case atStart => exact ⟨0, by omega, rfl, Lib.hid (Below.refl _ _)⟩
  case round =>
    obtain ⟨k, hk, rfl, HW⟩ := hrel
    by_cases hlt : k < 72
    · have hlt' : (k : Int) < 72 := by omega
      have hck := (HW.out.cell (p := ⟨g, k, none⟩) hg).trans (HC.out k hlt)
      have hg' : g < wr.heap.size := Nat.lt_of_lt_of_le hg HW.out.size
      obtain ⟨x, i1, i2, i5, i6, i8, b3, b4, b7, hx, hF, r1, r2, r3, r4, r5, r6⟩ := row_any k hlt
      rw [hx] at hck
      have HX := Lib.hid hx
      have q1 : decide (i1 < 1) = false := by simpa using r1
      have q2 : decide (i2 < i1) = false := by simpa using r2
      have q6 : decide (i1 ≤ i5) = false := by simpa using r6
      have HF := Lib.hid hF
      clear hx hF
      rcases Nat.eq_zero_or_pos k with rfl | hk0
      · go_wp2_with fail
        refine (HF.out _).mono ?_
        rintro e w2 ⟨rfl, b2⟩
        have hck2 := (b2.cell (p := ⟨g, 0, none⟩) hg').trans hck
        have B2 := Lib.hid (HW.out.trans (b2.mono HW.out.size))
        have hg2 : g < w2.heap.size := Nat.lt_of_lt_of_le hg' b2.size
        clear b2 hck
        rcases r4 with rfl | ⟨rfl, rfl⟩ <;> rcases r5 with r5 | ⟨rfl, rfl⟩
        all_goals
          first
            | have q5 : (i5 == 0) = false := by simpa using r5
            | skip
          go_wp2_with fail
          refine wp_region_q [0,0,0,0,1,0,0,0,1,0,0,0,0,0,0,0,0,0,1,0,0,0,0,1,0,0,0,0,0,1,0,0,0,0,1,0,1,0,0,0,0,1,0,0,1,0,0,0,0,0,1,0,0,0,1,0,0,0,0,0,1,0,1,0,0] (by kernel_rfl) (by kernel_rfl) ?_
          (refine q_pure_n rfl (fun K hK => ?_); go_simp; refine hK _ _ ?_; clear hK K)
          (refine q_pure_n rfl (fun K hK => ?_); go_simp; refine hK _ _ ?_; clear hK K)
          (refine q_pure_n rfl (fun K hK => ?_); go_simp; refine hK _ _ ?_; clear hK K)
          first | (refine q_pure_x rfl ?hy (fun K hK => ?_); (case hy => rfl); go_simp; refine hK _ _ ?_; clear hK K) | (refine q_pure_y rfl ?hy (fun K hK => ?_); (case hy => rfl); go_simp; refine hK _ _ ?_; clear hK K)
          first | (refine q_read_x rfl ?hy (fun K hK => ?_); (case hy => rfl); go_simp; refine hK _ _ ?_; clear hK K) | (refine q_read_y rfl ?hy (fun K hK => ?_); (case hy => rfl); go_simp; refine hK _ _ ?_; clear hK K)
          first | (refine q_pure_x rfl ?hy (fun K hK => ?_); (case hy => rfl); go_simp; refine hK _ _ ?_; clear hK K) | (refine q_pure_y rfl ?hy (fun K hK => ?_); (case hy => rfl); go_simp; refine hK _ _ ?_; clear hK K)
          first | (refine q_pure_x rfl ?hy (fun K hK => ?_); (case hy => rfl); go_simp; refine hK _ _ ?_; clear hK K) | (refine q_pure_y rfl ?hy (fun K hK => ?_); (case hy => rfl); go_simp; refine hK _ _ ?_; clear hK K)
          first | (refine q_pure_x rfl ?hy (fun K hK => ?_); (case hy => rfl); go_simp; refine hK _ _ ?_; clear hK K) | (refine q_pure_y rfl ?hy (fun K hK => ?_); (case hy => rfl); go_simp; refine hK _ _ ?_; clear hK K)
          first | (refine q_read_x rfl ?hy (fun K hK => ?_); (case hy => rfl); go_simp; refine hK _ _ ?_; clear hK K) | (refine q_read_y rfl ?hy (fun K hK => ?_); (case hy => rfl); go_simp; refine hK _ _ ?_; clear hK K)
          first | (refine q_pure_x rfl ?hy (fun K hK => ?_); (case hy => rfl); go_simp; refine hK _ _ ?_; clear hK K) | (refine q_pure_y rfl ?hy (fun K hK => ?_); (case hy => rfl); go_simp; refine hK _ _ ?_; clear hK K)
          (refine q_pure_n rfl (fun K hK => ?_); go_simp; refine hK _ _ ?_; clear hK K)
          (refine q_pure_n rfl (fun K hK => ?_); go_simp; refine hK _ _ ?_; clear hK K)
          first | (refine q_pure_x rfl ?hy (fun K hK => ?_); (case hy => rfl); go_simp; refine hK _ _ ?_; clear hK K) | (refine q_pure_y rfl ?hy (fun K hK => ?_); (case hy => rfl); go_simp; refine hK _ _ ?_; clear hK K)
          first | (refine q_pure_x rfl ?hy (fun K hK => ?_); (case hy => rfl); go_simp; refine hK _ _ ?_; clear hK K) | (refine q_pure_y rfl ?hy (fun K hK => ?_); (case hy => rfl); go_simp; refine hK _ _ ?_; clear hK K)
          first | (refine q_pure_x rfl ?hy (fun K hK => ?_); (case hy => rfl); go_simp; refine hK _ _ ?_; clear hK K) | (refine q_pure_y rfl ?hy (fun K hK => ?_); (case hy => rfl); go_simp; refine hK _ _ ?_; clear hK K)
          first | (refine q_pure_x rfl ?hy (fun K hK => ?_); (case hy => rfl); go_simp; refine hK _ _ ?_; clear hK K) | (refine q_pure_y rfl ?hy (fun K hK => ?_); (case hy => rfl); go_simp; refine hK _ _ ?_; clear hK K)
          first | (refine q_pure_x rfl ?hy (fun K hK => ?_); (case hy => rfl); go_simp; refine hK _ _ ?_; clear hK K) | (refine q_pure_y rfl ?hy (fun K hK => ?_); (case hy => rfl); go_simp; refine hK _ _ ?_; clear hK K)
          first | (refine q_pure_x rfl ?hy (fun K hK => ?_); (case hy => rfl); go_simp; refine hK _ _ ?_; clear hK K) | (refine q_pure_y rfl ?hy (fun K hK => ?_); (case hy => rfl); go_simp; refine hK _ _ ?_; clear hK K)
          first | (refine q_read_x rfl ?hy (fun K hK => ?_); (case hy => rfl); go_simp; refine hK _ _ ?_; clear hK K) | (refine q_read_y rfl ?hy (fun K hK => ?_); (case hy => rfl); go_simp; refine hK _ _ ?_; clear hK K)
          first | (refine q_pure_x rfl ?hy (fun K hK => ?_); (case hy => rfl); go_simp; refine hK _ _ ?_; clear hK K) | (refine q_pure_y rfl ?hy (fun K hK => ?_); (case hy => rfl); go_simp; refine hK _ _ ?_; clear hK K)
          first | (refine q_pure_x rfl ?hy (fun K hK => ?_); (case hy => rfl); go_simp; refine hK _ _ ?_; clear hK K) | (refine q_pure_y rfl ?hy (fun K hK => ?_); (case hy => rfl); go_simp; refine hK _ _ ?_; clear hK K)
          first | (refine q_pure_x rfl ?hy (fun K hK => ?_); (case hy => rfl); go_simp; refine hK _ _ ?_; clear hK K) | (refine q_pure_y rfl ?hy (fun K hK => ?_); (case hy => rfl); go_simp; refine hK _ _ ?_; clear hK K)
          first | (refine q_pure_x rfl ?hy (fun K hK => ?_); (case hy => rfl); go_simp; refine hK _ _ ?_; clear hK K) | (refine q_pure_y rfl ?hy (fun K hK => ?_); (case hy => rfl); go_simp; refine hK _ _ ?_; clear hK K)
          first | (refine q_read_x rfl ?hy (fun K hK => ?_); (case hy => rfl); go_simp; refine hK _ _ ?_; clear hK K) | (refine q_read_y rfl ?hy (fun K hK => ?_); (case hy => rfl); go_simp; refine hK _ _ ?_; clear hK K)
          first | (refine q_pure_x rfl ?hy (fun K hK => ?_); (case hy => rfl); go_simp; refine hK _ _ ?_; clear hK K) | (refine q_pure_y rfl ?hy (fun K hK => ?_); (case hy => rfl); go_simp; refine hK _ _ ?_; clear hK K)
          first | (refine q_pure_x rfl ?hy (fun K hK => ?_); (case hy => rfl); go_simp; refine hK _ _ ?_; clear hK K) | (refine q_pure_y rfl ?hy (fun K hK => ?_); (case hy => rfl); go_simp; refine hK _ _ ?_; clear hK K)
          (refine q_pure_n rfl (fun K hK => ?_); go_simp; refine hK _ _ ?_; clear hK K)
          (refine q_pure_n rfl (fun K hK => ?_); go_simp; refine hK _ _ ?_; clear hK K)
          first | (refine q_pure_x rfl ?hy (fun K hK => ?_); (case hy => rfl); go_simp; refine hK _ _ ?_; clear hK K) | (refine q_pure_y rfl ?hy (fun K hK => ?_); (case hy => rfl); go_simp; refine hK _ _ ?_; clear hK K)
          first | (refine q_read_x rfl ?hy (fun K hK => ?_); (case hy => rfl); go_simp; refine hK _ _ ?_; clear hK K) | (refine q_read_y rfl ?hy (fun K hK => ?_); (case hy => rfl); go_simp; refine hK _ _ ?_; clear hK K)
          first | (refine q_pure_x rfl ?hy (fun K hK => ?_); (case hy => rfl); go_simp; refine hK _ _ ?_; clear hK K) | (refine q_pure_y rfl ?hy (fun K hK => ?_); (case hy => rfl); go_simp; refine hK _ _ ?_; clear hK K)
          (refine q_pure_n rfl (fun K hK => ?_); go_simp; refine hK _ _ ?_; clear hK K)
          (refine q_pure_n rfl (fun K hK => ?_); go_simp; refine hK _ _ ?_; clear hK K)
          first | (refine q_pure_x rfl ?hy (fun K hK => ?_); (case hy => rfl); go_simp; refine hK _ _ ?_; clear hK K) | (refine q_pure_y rfl ?hy (fun K hK => ?_); (case hy => rfl); go_simp; refine hK _ _ ?_; clear hK K)
          first | (refine q_read_x rfl ?hy (fun K hK => ?_); (case hy => rfl); go_simp; refine hK _ _ ?_; clear hK K) | (refine q_read_y rfl ?hy (fun K hK => ?_); (case hy => rfl); go_simp; refine hK _ _ ?_; clear hK K)
          first | (refine q_pure_x rfl ?hy (fun K hK => ?_); (case hy => rfl); go_simp; refine hK _ _ ?_; clear hK K) | (refine q_pure_y rfl ?hy (fun K hK => ?_); (case hy => rfl); go_simp; refine hK _ _ ?_; clear hK K)
          first | (refine q_read_x rfl ?hy (fun K hK => ?_); (case hy => rfl); go_simp; refine hK _ _ ?_; clear hK K) | (refine q_read_y rfl ?hy (fun K hK => ?_); (case hy => rfl); go_simp; refine hK _ _ ?_; clear hK K)
          first | (refine q_pure_x rfl ?hy (fun K hK => ?_); (case hy => rfl); go_simp; refine hK _ _ ?_; clear hK K) | (refine q_pure_y rfl ?hy (fun K hK => ?_); (case hy => rfl); go_simp; refine hK _ _ ?_; clear hK K)
          (refine q_pure_n rfl (fun K hK => ?_); go_simp; refine hK _ _ ?_; clear hK K)
          (refine q_pure_n rfl (fun K hK => ?_); go_simp; refine hK _ _ ?_; clear hK K)
          first | (refine q_pure_x rfl ?hy (fun K hK => ?_); (case hy => rfl); go_simp; refine hK _ _ ?_; clear hK K) | (refine q_pure_y rfl ?hy (fun K hK => ?_); (case hy => rfl); go_simp; refine hK _ _ ?_; clear hK K)
          first | (refine q_read_x rfl ?hy (fun K hK => ?_); (case hy => rfl); go_simp; refine hK _ _ ?_; clear hK K) | (refine q_read_y rfl ?hy (fun K hK => ?_); (case hy => rfl); go_simp; refine hK _ _ ?_; clear hK K)
          first | (refine q_pure_x rfl ?hy (fun K hK => ?_); (case hy => rfl); go_simp; refine hK _ _ ?_; clear hK K) | (refine q_pure_y rfl ?hy (fun K hK => ?_); (case hy => rfl); go_simp; refine hK _ _ ?_; clear hK K)
          first | (refine q_pure_x rfl ?hy (fun K hK => ?_); (case hy => rfl); go_simp; refine hK _ _ ?_; clear hK K) | (refine q_pure_y rfl ?hy (fun K hK => ?_); (case hy => rfl); go_simp; refine hK _ _ ?_; clear hK K)
          first | (refine q_read_x rfl ?hy (fun K hK => ?_); (case hy => rfl); go_simp; refine hK _ _ ?_; clear hK K) | (refine q_read_y rfl ?hy (fun K hK => ?_); (case hy => rfl); go_simp; refine hK _ _ ?_; clear hK K)
          first | (refine q_pure_x rfl ?hy (fun K hK => ?_); (case hy => rfl); go_simp; refine hK _ _ ?_; clear hK K) | (refine q_pure_y rfl ?hy (fun K hK => ?_); (case hy => rfl); go_simp; refine hK _ _ ?_; clear hK K)
          first | (refine q_pure_x rfl ?hy (fun K hK => ?_); (case hy => rfl); go_simp; refine hK _ _ ?_; clear hK K) | (refine q_pure_y rfl ?hy (fun K hK => ?_); (case hy => rfl); go_simp; refine hK _ _ ?_; clear hK K)
          (refine q_pure_n rfl (fun K hK => ?_); go_simp; refine hK _ _ ?_; clear hK K)
          (refine q_pure_n rfl (fun K hK => ?_); go_simp; refine hK _ _ ?_; clear hK K)
          first | (refine q_pure_x rfl ?hy (fun K hK => ?_); (case hy => rfl); go_simp; refine hK _ _ ?_; clear hK K) | (refine q_pure_y rfl ?hy (fun K hK => ?_); (case hy => rfl); go_simp; refine hK _ _ ?_; clear hK K)
          first | (refine q_read_x rfl ?hy (fun K hK => ?_); (case hy => rfl); go_simp; refine hK _ _ ?_; clear hK K) | (refine q_read_y rfl ?hy (fun K hK => ?_); (case hy => rfl); go_simp; refine hK _ _ ?_; clear hK K)
          first | (refine q_pure_x rfl ?hy (fun K hK => ?_); (case hy => rfl); go_simp; refine hK _ _ ?_; clear hK K) | (refine q_pure_y rfl ?hy (fun K hK => ?_); (case hy => rfl); go_simp; refine hK _ _ ?_; clear hK K)
          first | (refine q_pure_x rfl ?hy (fun K hK => ?_); (case hy => rfl); go_simp; refine hK _ _ ?_; clear hK K) | (refine q_pure_y rfl ?hy (fun K hK => ?_); (case hy => rfl); go_simp; refine hK _ _ ?_; clear hK K)
          first | (refine q_pure_x rfl ?hy (fun K hK => ?_); (case hy => rfl); go_simp; refine hK _ _ ?_; clear hK K) | (refine q_pure_y rfl ?hy (fun K hK => ?_); (case hy => rfl); go_simp; refine hK _ _ ?_; clear hK K)
          first | (refine q_read_x rfl ?hy (fun K hK => ?_); (case hy => rfl); go_simp; refine hK _ _ ?_; clear hK K) | (refine q_read_y rfl ?hy (fun K hK => ?_); (case hy => rfl); go_simp; refine hK _ _ ?_; clear hK K)
          first | (refine q_pure_x rfl ?hy (fun K hK => ?_); (case hy => rfl); go_simp; refine hK _ _ ?_; clear hK K) | (refine q_pure_y rfl ?hy (fun K hK => ?_); (case hy => rfl); go_simp; refine hK _ _ ?_; clear hK K)
          first | (refine q_pure_x rfl ?hy (fun K hK => ?_); (case hy => rfl); go_simp; refine hK _ _ ?_; clear hK K) | (refine q_pure_y rfl ?hy (fun K hK => ?_); (case hy => rfl); go_simp; refine hK _ _ ?_; clear hK K)
          (refine q_pure_n rfl (fun K hK => ?_); go_simp; refine hK _ _ ?_; clear hK K)
          (refine q_pure_n rfl (fun K hK => ?_); go_simp; refine hK _ _ ?_; clear hK K)
          first | (refine q_pure_x rfl ?hy (fun K hK => ?_); (case hy => rfl); go_simp; refine hK _ _ ?_; clear hK K) | (refine q_pure_y rfl ?hy (fun K hK => ?_); (case hy => rfl); go_simp; refine hK _ _ ?_; clear hK K)
          first | (refine q_read_x rfl ?hy (fun K hK => ?_); (case hy => rfl); go_simp; refine hK _ _ ?_; clear hK K) | (refine q_read_y rfl ?hy (fun K hK => ?_); (case hy => rfl); go_simp; refine hK _ _ ?_; clear hK K)
          first | (refine q_pure_x rfl ?hy (fun K hK => ?_); (case hy => rfl); go_simp; refine hK _ _ ?_; clear hK K) | (refine q_pure_y rfl ?hy (fun K hK => ?_); (case hy => rfl); go_simp; refine hK _ _ ?_; clear hK K)
          first | (refine q_read_x rfl ?hy (fun K hK => ?_); (case hy => rfl); go_simp; refine hK _ _ ?_; clear hK K) | (refine q_read_y rfl ?hy (fun K hK => ?_); (case hy => rfl); go_simp; refine hK _ _ ?_; clear hK K)
          first | (refine q_pure_x rfl ?hy (fun K hK => ?_); (case hy => rfl); go_simp; refine hK _ _ ?_; clear hK K) | (refine q_pure_y rfl ?hy (fun K hK => ?_); (case hy => rfl); go_simp; refine hK _ _ ?_; clear hK K)
          (refine q_pure_n rfl (fun K hK => ?_); go_simp; refine hK _ _ ?_; clear hK K)
          refine q_nil ?_
          intro nq
          go_wp2_with fail
          refine ⟨⟨1, by omega, by go_num, Lib.hid (below_drewN (B2.out.alloc B2.out.size _) nq)⟩, by simp [intOf]⟩
      · obtain ⟨j, rfl⟩ : ∃ j, k = j + 1 := ⟨k - 1, by omega⟩
        have hcj := (HW.out.cell (p := ⟨g, j, none⟩) hg).trans (HC.out j (by omega))
        have hrise := rise 0 j (by omega)
        have s0 : (0 : Int) ≤ (j : Int) + 1 := by omega
        have s1 : (0 : Int) < (j : Int) + 1 := by omega
        have s2 : ((j : Int) + 1).toNat = j + 1 := by omega
        have s3 : IntKind.i64.wrap (j : Int) = (j : Int) := by rw [IntKind.wrap_i64]; omega
        have s4 : (j : Int) < 72 := by omega
        rw [Nat.add_zero, HX.out] at hrise
        obtain ⟨y, hy⟩ : ∃ y, y = nm j := ⟨_, rfl⟩
        rw [← hy] at hcj hrise
        clear hy
        have hr2 : Op.bytesLess x.toList y.toList = false := by
          cases h : Op.bytesLess x.toList y.toList with
          | false => rfl
          | true => have := bl_trans hrise h; rw [bl_irrefl] at this; cases this
        have hr3 : (x.toList == y.toList) = false := by
          rw [beq_eq_false_iff_ne]
          intro h
          rw [h, bl_irrefl] at hrise
          cases hrise
        have hr4 : ¬ x = y := fun h => by rw [h] at hr3; simp at hr3
        go_wp2_with fail
        refine (HF.out _).mono ?_
        rintro e w2 ⟨rfl, b2⟩
        have hck2 := (b2.cell (p := ⟨g, j + 1, none⟩) hg').trans hck
        have hcj2 := (b2.cell (p := ⟨g, j, none⟩) hg').trans hcj
        have B2 := Lib.hid (HW.out.trans (b2.mono HW.out.size))
        have hg2 : g < w2.heap.size := Nat.lt_of_lt_of_le hg' b2.size
        clear b2 hck hcj
        rcases r4 with rfl | ⟨rfl, rfl⟩ <;> rcases r5 with r5 | ⟨rfl, rfl⟩
        all_goals
          first
            | have q5 : (i5 == 0) = false := by simpa using r5
            | skip
          go_wp2_with fail
          refine wp_region_q [0,0,0,0,1,0,0,0,1,0,0,0,0,0,0,0,0,0,1,0,0,0,0,1,0,0,0,0,0,1,0,0,0,0,1,0,1,0,0,0,0,1,0,0,1,0,0,0,0,0,1,0,0,0,1,0,0,0,0,0,1,0,1,0,0] (by kernel_rfl) (by kernel_rfl) ?_
          (refine q_pure_n rfl (fun K hK => ?_); go_simp; refine hK _ _ ?_; clear hK K)
          (refine q_pure_n rfl (fun K hK => ?_); go_simp; refine hK _ _ ?_; clear hK K)
          (refine q_pure_n rfl (fun K hK => ?_); go_simp; refine hK _ _ ?_; clear hK K)
          first | (refine q_pure_x rfl ?hy (fun K hK => ?_); (case hy => rfl); go_simp; refine hK _ _ ?_; clear hK K) | (refine q_pure_y rfl ?hy (fun K hK => ?_); (case hy => rfl); go_simp; refine hK _ _ ?_; clear hK K)
          first | (refine q_read_x rfl ?hy (fun K hK => ?_); (case hy => rfl); go_simp; refine hK _ _ ?_; clear hK K) | (refine q_read_y rfl ?hy (fun K hK => ?_); (case hy => rfl); go_simp; refine hK _ _ ?_; clear hK K)
          first | (refine q_pure_x rfl ?hy (fun K hK => ?_); (case hy => rfl); go_simp; refine hK _ _ ?_; clear hK K) | (refine q_pure_y rfl ?hy (fun K hK => ?_); (case hy => rfl); go_simp; refine hK _ _ ?_; clear hK K)
          first | (refine q_pure_x rfl ?hy (fun K hK => ?_); (case hy => rfl); go_simp; refine hK _ _ ?_; clear hK K) | (refine q_pure_y rfl ?hy (fun K hK => ?_); (case hy => rfl); go_simp; refine hK _ _ ?_; clear hK K)
          first | (refine q_pure_x rfl ?hy (fun K hK => ?_); (case hy => rfl); go_simp; refine hK _ _ ?_; clear hK K) | (refine q_pure_y rfl ?hy (fun K hK => ?_); (case hy => rfl); go_simp; refine hK _ _ ?_; clear hK K)
          first | (refine q_read_x rfl ?hy (fun K hK => ?_); (case hy => rfl); go_simp; refine hK _ _ ?_; clear hK K) | (refine q_read_y rfl ?hy (fun K hK => ?_); (case hy => rfl); go_simp; refine hK _ _ ?_; clear hK K)
          first | (refine q_pure_x rfl ?hy (fun K hK => ?_); (case hy => rfl); go_simp; refine hK _ _ ?_; clear hK K) | (refine q_pure_y rfl ?hy (fun K hK => ?_); (case hy => rfl); go_simp; refine hK _ _ ?_; clear hK K)
          (refine q_pure_n rfl (fun K hK => ?_); go_simp; refine hK _ _ ?_; clear hK K)
          (refine q_pure_n rfl (fun K hK => ?_); go_simp; refine hK _ _ ?_; clear hK K)
          first | (refine q_pure_x rfl ?hy (fun K hK => ?_); (case hy => rfl); go_simp; refine hK _ _ ?_; clear hK K) | (refine q_pure_y rfl ?hy (fun K hK => ?_); (case hy => rfl); go_simp; refine hK _ _ ?_; clear hK K)
          first | (refine q_pure_x rfl ?hy (fun K hK => ?_); (case hy => rfl); go_simp; refine hK _ _ ?_; clear hK K) | (refine q_pure_y rfl ?hy (fun K hK => ?_); (case hy => rfl); go_simp; refine hK _ _ ?_; clear hK K)
          first | (refine q_pure_x rfl ?hy (fun K hK => ?_); (case hy => rfl); go_simp; refine hK _ _ ?_; clear hK K) | (refine q_pure_y rfl ?hy (fun K hK => ?_); (case hy => rfl); go_simp; refine hK _ _ ?_; clear hK K)
          first | (refine q_pure_x rfl ?hy (fun K hK => ?_); (case hy => rfl); go_simp; refine hK _ _ ?_; clear hK K) | (refine q_pure_y rfl ?hy (fun K hK => ?_); (case hy => rfl); go_simp; refine hK _ _ ?_; clear hK K)
          first | (refine q_pure_x rfl ?hy (fun K hK => ?_); (case hy => rfl); go_simp; refine hK _ _ ?_; clear hK K) | (refine q_pure_y rfl ?hy (fun K hK => ?_); (case hy => rfl); go_simp; refine hK _ _ ?_; clear hK K)
          first | (refine q_pure_x rfl ?hy (fun K hK => ?_); (case hy => rfl); go_simp; refine hK _ _ ?_; clear hK K) | (refine q_pure_y rfl ?hy (fun K hK => ?_); (case hy => rfl); go_simp; refine hK _ _ ?_; clear hK K)
          first | (refine q_read_x rfl ?hy (fun K hK => ?_); (case hy => rfl); go_simp; refine hK _ _ ?_; clear hK K) | (refine q_read_y rfl ?hy (fun K hK => ?_); (case hy => rfl); go_simp; refine hK _ _ ?_; clear hK K)
          first | (refine q_pure_x rfl ?hy (fun K hK => ?_); (case hy => rfl); go_simp; refine hK _ _ ?_; clear hK K) | (refine q_pure_y rfl ?hy (fun K hK => ?_); (case hy => rfl); go_simp; refine hK _ _ ?_; clear hK K)
          first | (refine q_pure_x rfl ?hy (fun K hK => ?_); (case hy => rfl); go_simp; refine hK _ _ ?_; clear hK K) | (refine q_pure_y rfl ?hy (fun K hK => ?_); (case hy => rfl); go_simp; refine hK _ _ ?_; clear hK K)
          first | (refine q_pure_x rfl ?hy (fun K hK => ?_); (case hy => rfl); go_simp; refine hK _ _ ?_; clear hK K) | (refine q_pure_y rfl ?hy (fun K hK => ?_); (case hy => rfl); go_simp; refine hK _ _ ?_; clear hK K)
          first | (refine q_pure_x rfl ?hy (fun K hK => ?_); (case hy => rfl); go_simp; refine hK _ _ ?_; clear hK K) | (refine q_pure_y rfl ?hy (fun K hK => ?_); (case hy => rfl); go_simp; refine hK _ _ ?_; clear hK K)
          first | (refine q_read_x rfl ?hy (fun K hK => ?_); (case hy => rfl); go_simp; refine hK _ _ ?_; clear hK K) | (refine q_read_y rfl ?hy (fun K hK => ?_); (case hy => rfl); go_simp; refine hK _ _ ?_; clear hK K)
          first | (refine q_pure_x rfl ?hy (fun K hK => ?_); (case hy => rfl); go_simp; refine hK _ _ ?_; clear hK K) | (refine q_pure_y rfl ?hy (fun K hK => ?_); (case hy => rfl); go_simp; refine hK _ _ ?_; clear hK K)
          first | (refine q_pure_x rfl ?hy (fun K hK => ?_); (case hy => rfl); go_simp; refine hK _ _ ?_; clear hK K) | (refine q_pure_y rfl ?hy (fun K hK => ?_); (case hy => rfl); go_simp; refine hK _ _ ?_; clear hK K)
          (refine q_pure_n rfl (fun K hK => ?_); go_simp; refine hK _ _ ?_; clear hK K)
          (refine q_pure_n rfl (fun K hK => ?_); go_simp; refine hK _ _ ?_; clear hK K)
          first | (refine q_pure_x rfl ?hy (fun K hK => ?_); (case hy => rfl); go_simp; refine hK _ _ ?_; clear hK K) | (refine q_pure_y rfl ?hy (fun K hK => ?_); (case hy => rfl); go_simp; refine hK _ _ ?_; clear hK K)
          first | (refine q_read_x rfl ?hy (fun K hK => ?_); (case hy => rfl); go_simp; refine hK _ _ ?_; clear hK K) | (refine q_read_y rfl ?hy (fun K hK => ?_); (case hy => rfl); go_simp; refine hK _ _ ?_; clear hK K)
          first | (refine q_pure_x rfl ?hy (fun K hK => ?_); (case hy => rfl); go_simp; refine hK _ _ ?_; clear hK K) | (refine q_pure_y rfl ?hy (fun K hK => ?_); (case hy => rfl); go_simp; refine hK _ _ ?_; clear hK K)
          (refine q_pure_n rfl (fun K hK => ?_); go_simp; refine hK _ _ ?_; clear hK K)
          (refine q_pure_n rfl (fun K hK => ?_); go_simp; refine hK _ _ ?_; clear hK K)
          first | (refine q_pure_x rfl ?hy (fun K hK => ?_); (case hy => rfl); go_simp; refine hK _ _ ?_; clear hK K) | (refine q_pure_y rfl ?hy (fun K hK => ?_); (case hy => rfl); go_simp; refine hK _ _ ?_; clear hK K)
          first | (refine q_read_x rfl ?hy (fun K hK => ?_); (case hy => rfl); go_simp; refine hK _ _ ?_; clear hK K) | (refine q_read_y rfl ?hy (fun K hK => ?_); (case hy => rfl); go_simp; refine hK _ _ ?_; clear hK K)
          first | (refine q_pure_x rfl ?hy (fun K hK => ?_); (case hy => rfl); go_simp; refine hK _ _ ?_; clear hK K) | (refine q_pure_y rfl ?hy (fun K hK => ?_); (case hy => rfl); go_simp; refine hK _ _ ?_; clear hK K)
          first | (refine q_read_x rfl ?hy (fun K hK => ?_); (case hy => rfl); go_simp; refine hK _ _ ?_; clear hK K) | (refine q_read_y rfl ?hy (fun K hK => ?_); (case hy => rfl); go_simp; refine hK _ _ ?_; clear hK K)
          first | (refine q_pure_x rfl ?hy (fun K hK => ?_); (case hy => rfl); go_simp; refine hK _ _ ?_; clear hK K) | (refine q_pure_y rfl ?hy (fun K hK => ?_); (case hy => rfl); go_simp; refine hK _ _ ?_; clear hK K)
          (refine q_pure_n rfl (fun K hK => ?_); go_simp; refine hK _ _ ?_; clear hK K)
          (refine q_pure_n rfl (fun K hK => ?_); go_simp; refine hK _ _ ?_; clear hK K)
          first | (refine q_pure_x rfl ?hy (fun K hK => ?_); (case hy => rfl); go_simp; refine hK _ _ ?_; clear hK K) | (refine q_pure_y rfl ?hy (fun K hK => ?_); (case hy => rfl); go_simp; refine hK _ _ ?_; clear hK K)
          first | (refine q_read_x rfl ?hy (fun K hK => ?_); (case hy => rfl); go_simp; refine hK _ _ ?_; clear hK K) | (refine q_read_y rfl ?hy (fun K hK => ?_); (case hy => rfl); go_simp; refine hK _ _ ?_; clear hK K)
          first | (refine q_pure_x rfl ?hy (fun K hK => ?_); (case hy => rfl); go_simp; refine hK _ _ ?_; clear hK K) | (refine q_pure_y rfl ?hy (fun K hK => ?_); (case hy => rfl); go_simp; refine hK _ _ ?_; clear hK K)
          first | (refine q_pure_x rfl ?hy (fun K hK => ?_); (case hy => rfl); go_simp; refine hK _ _ ?_; clear hK K) | (refine q_pure_y rfl ?hy (fun K hK => ?_); (case hy => rfl); go_simp; refine hK _ _ ?_; clear hK K)
          first | (refine q_read_x rfl ?hy (fun K hK => ?_); (case hy => rfl); go_simp; refine hK _ _ ?_; clear hK K) | (refine q_read_y rfl ?hy (fun K hK => ?_); (case hy => rfl); go_simp; refine hK _ _ ?_; clear hK K)
          first | (refine q_pure_x rfl ?hy (fun K hK => ?_); (case hy => rfl); go_simp; refine hK _ _ ?_; clear hK K) | (refine q_pure_y rfl ?hy (fun K hK => ?_); (case hy => rfl); go_simp; refine hK _ _ ?_; clear hK K)
          first | (refine q_pure_x rfl ?hy (fun K hK => ?_); (case hy => rfl); go_simp; refine hK _ _ ?_; clear hK K) | (refine q_pure_y rfl ?hy (fun K hK => ?_); (case hy => rfl); go_simp; refine hK _ _ ?_; clear hK K)
          (refine q_pure_n rfl (fun K hK => ?_); go_simp; refine hK _ _ ?_; clear hK K)
          (refine q_pure_n rfl (fun K hK => ?_); go_simp; refine hK _ _ ?_; clear hK K)
          first | (refine q_pure_x rfl ?hy (fun K hK => ?_); (case hy => rfl); go_simp; refine hK _ _ ?_; clear hK K) | (refine q_pure_y rfl ?hy (fun K hK => ?_); (case hy => rfl); go_simp; refine hK _ _ ?_; clear hK K)
          first | (refine q_read_x rfl ?hy (fun K hK => ?_); (case hy => rfl); go_simp; refine hK _ _ ?_; clear hK K) | (refine q_read_y rfl ?hy (fun K hK => ?_); (case hy => rfl); go_simp; refine hK _ _ ?_; clear hK K)
          first | (refine q_pure_x rfl ?hy (fun K hK => ?_); (case hy => rfl); go_simp; refine hK _ _ ?_; clear hK K) | (refine q_pure_y rfl ?hy (fun K hK => ?_); (case hy => rfl); go_simp; refine hK _ _ ?_; clear hK K)
          first | (refine q_pure_x rfl ?hy (fun K hK => ?_); (case hy => rfl); go_simp; refine hK _ _ ?_; clear hK K) | (refine q_pure_y rfl ?hy (fun K hK => ?_); (case hy => rfl); go_simp; refine hK _ _ ?_; clear hK K)
          first | (refine q_pure_x rfl ?hy (fun K hK => ?_); (case hy => rfl); go_simp; refine hK _ _ ?_; clear hK K) | (refine q_pure_y rfl ?hy (fun K hK => ?_); (case hy => rfl); go_simp; refine hK _ _ ?_; clear hK K)
          first | (refine q_read_x rfl ?hy (fun K hK => ?_); (case hy => rfl); go_simp; refine hK _ _ ?_; clear hK K) | (refine q_read_y rfl ?hy (fun K hK => ?_); (case hy => rfl); go_simp; refine hK _ _ ?_; clear hK K)
          first | (refine q_pure_x rfl ?hy (fun K hK => ?_); (case hy => rfl); go_simp; refine hK _ _ ?_; clear hK K) | (refine q_pure_y rfl ?hy (fun K hK => ?_); (case hy => rfl); go_simp; refine hK _ _ ?_; clear hK K)
          first | (refine q_pure_x rfl ?hy (fun K hK => ?_); (case hy => rfl); go_simp; refine hK _ _ ?_; clear hK K) | (refine q_pure_y rfl ?hy (fun K hK => ?_); (case hy => rfl); go_simp; refine hK _ _ ?_; clear hK K)
          (refine q_pure_n rfl (fun K hK => ?_); go_simp; refine hK _ _ ?_; clear hK K)
          (refine q_pure_n rfl (fun K hK => ?_); go_simp; refine hK _ _ ?_; clear hK K)
          first | (refine q_pure_x rfl ?hy (fun K hK => ?_); (case hy => rfl); go_simp; refine hK _ _ ?_; clear hK K) | (refine q_pure_y rfl ?hy (fun K hK => ?_); (case hy => rfl); go_simp; refine hK _ _ ?_; clear hK K)
          first | (refine q_read_x rfl ?hy (fun K hK => ?_); (case hy => rfl); go_simp; refine hK _ _ ?_; clear hK K) | (refine q_read_y rfl ?hy (fun K hK => ?_); (case hy => rfl); go_simp; refine hK _ _ ?_; clear hK K)
          first | (refine q_pure_x rfl ?hy (fun K hK => ?_); (case hy => rfl); go_simp; refine hK _ _ ?_; clear hK K) | (refine q_pure_y rfl ?hy (fun K hK => ?_); (case hy => rfl); go_simp; refine hK _ _ ?_; clear hK K)
          first | (refine q_read_x rfl ?hy (fun K hK => ?_); (case hy => rfl); go_simp; refine hK _ _ ?_; clear hK K) | (refine q_read_y rfl ?hy (fun K hK => ?_); (case hy => rfl); go_simp; refine hK _ _ ?_; clear hK K)
          first | (refine q_pure_x rfl ?hy (fun K hK => ?_); (case hy => rfl); go_simp; refine hK _ _ ?_; clear hK K) | (refine q_pure_y rfl ?hy (fun K hK => ?_); (case hy => rfl); go_simp; refine hK _ _ ?_; clear hK K)
          (refine q_pure_n rfl (fun K hK => ?_); go_simp; refine hK _ _ ?_; clear hK K)
          refine q_nil ?_
          intro nq
          go_wp2_with fail
          refine ⟨⟨j + 1 + 1, by omega, by go_num, Lib.hid (below_drewN (B2.out.alloc B2.out.size _) nq)⟩, by simp [intOf]; omega⟩
    · have hlt' : ¬ (k : Int) < 72 := by omega
      obtain rfl : k = 72 := by omega
      obtain ⟨r, hr⟩ : ∃ r, r = n.tmod 72 := ⟨_, rfl⟩
      have hr2 : ∃ j : Nat, j < 72 ∧ (r = (j : Int) ∨ r = (j : Int) - 72) := by
        have e1 : r < 72 := by rw [hr]; exact Int.tmod_lt_of_pos _ (by omega)
        have e2 : -72 < r := by rw [hr]; exact Int.lt_tmod_of_pos _ (by omega)
        by_cases h : 0 ≤ r
        · exact ⟨r.toNat, by omega, .inl (by omega)⟩
        · exact ⟨(r + 72).toNat, by omega, .inr (by omega)⟩
      obtain ⟨j, hj, hrj⟩ := hr2
      have hr' := hr.symm
      clear hr
      have hcj := (HW.out.cell (p := ⟨g, j, none⟩) hg).trans (HC.out j hj)
      have HF := Lib.hid (fun w => find_nm j hj w)
      obtain ⟨r1, r2, r3, r4, r5, r6⟩ := good_row j hj
      have hj0 : (j : Int) < 72 := by omega
      have hj1 : (j : Int) - 72 < 0 := by omega
      obtain ⟨m, hm⟩ : ∃ m : Nat, iv j 2 = (m : Int) := ⟨(iv j 2).toNat, by omega⟩
      have hm2 : m ≤ 1024 := by omega
      have hmi : (m : Int) ≤ 1024 := by omega
      have HK := Lib.hid (fun g w hS => check_long j m hj hm hm2 g w hS)
      obtain ⟨i0, hi, hz0, hz1, hz2⟩ := info_parts info_str
      have HI := Lib.hid hi
      have HZ0 := Lib.hid hz0
      have HZ1 := Lib.hid hz1
      have HZ2 := Lib.hid hz2
      clear hi hz0 hz1 hz2 r1 r2 r3 r4 r5 r6
      have HM := Lib.hid hm
      clear hm
      rcases hrj with rfl | rfl
      all_goals
        go_wp2_with fail
        refine (HF.out _).mono ?_
        rintro e w2 ⟨rfl, b2⟩
        have B2 := Lib.hid (HW.out.trans (b2.mono HW.out.size))
        clear b2
        unfold specV
        rw [HM.out]
        go_wp2_with (at_make; refine wpList_make_full _ rfl _ _ 33 rfl w1.heap.size 9 i0 (.string ⟨#[]⟩) 1 Try.underlying33 HI.out HZ0.out HZ1.out .i64 .i64 _ _ (m + 1) rfl rfl ?c1 ?c2 ?c3 ?c4 ?c5 ?_)
        case c1 => omega
        case c2 => omega
        case c3 => rw [HZ2.out]; omega
        case c4 => unfold maxLen; omega
        case c5 => have := B2.out.size; simp; omega
        intro w3 hown3 hgrow3
        have e3 : (madeCells #[Value.string ⟨#[]⟩] (m + 1)).toList = List.replicate (m + 1) (.string ⟨#[]⟩) := toList_madeCells_one _ _
        rw [e3] at hown3
        have hz3 := Lib.hid (hown3.lt _ rfl)
        have B3 := Lib.hid (below_grown (B2.out.alloc B2.out.size (.cells (rowA j) 23)) (by unfold rowA; rw [HM.out]; exact hgrow3) (fun b e => by cases e) (Nat.le_refl _))
        have c30 := hown3.cells (g := w2.heap.size + 1) rfl 0 (.string ⟨#[]⟩) (by simp)
        simp only [Addr.add_lit, Nat.zero_add] at c30
        have f30 := hown3.frozenAt 0
        have n30 := (hgrow3.cell (a := ⟨w2.heap.size, 0, none⟩) (v := .string (nm j)) (by go_simp) (by simp))
        have HS3 := Lib.hid (longS_strs (nm j) m hown3)
        clear hown3 hgrow3 e3
        have hlt3 := hz3.out.2
        go_wp2_with fail
        refine (HK.out _ _ HS3.out).mono ?_
        rintro e w4 ⟨rfl, b4⟩
        have B4 := Lib.hid ((B3.out.setCell (p := ⟨w2.heap.size + 1, 0, none⟩) (hz3.out.1) (.string (nm j))).trans (b4.mono (by have := B3.out.size; simp [World.setCell]; omega)))
        clear b4
        unfold repV sWrong
        go_wp2_with fail
        refine (lives_any _).mono ?_
        rintro e w5 ⟨rfl, b5⟩
        have B5 := Lib.hid ((B4.out.alloc B4.out.size (.cells #[.int .u8 2, .string sWrong, .int .i64 0, .slice none 0 0] 39)).trans (b5.mono (by have := B4.out.size; simp; omega)))
        clear b5
        go_wp2_with fail
        go_ret
        exact ⟨rfl, B1.out.trans (B5.out.mono B1.out.size)⟩
end Go.Proofs.Ytpanbijlfijgfaa.TableRows
