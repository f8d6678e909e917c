/- TwinInts and LeftInts: a copy with a mark behind it; is it still that? -/
import Derived.Test.YtjjcicfilbfbjaaGone04
import Derived.OwnWalk
namespace Go.Proofs.Ytjjcicfilbfbjaa.Gon
open Go.RowKit Go.Proofs.Ytjjcicfilbfbjaa.Pin

/-- a slice of ints -/
def Ints (w : World) (p : Option Addr) (n : Nat) (A : Nat → Int) : Prop :=
  ∀ i, i < n → ∃ g o, p = some ⟨g, o, none⟩ ∧ g < w.heap.size ∧ w.cell? ⟨g, o + i, none⟩ = some (.int .i64 (A i))
theorem Ints.below {w w' : World} {p : Option Addr} {n : Nat} {A : Nat → Int} (h : Ints w p n A) (hb : Below w.heap.size w w') : Ints w' p n A := by
  intro i hi
  obtain ⟨g, o, hp, hg, hc⟩ := h i hi
  exact ⟨g, o, hp, Nat.lt_of_lt_of_le hg hb.size, (hb.cell (p := ⟨g, o + i, none⟩) hg).trans hc⟩
def ints (A : Nat → Int) (k : Nat) : List Value := (List.range k).map fun j => .int .i64 (A j)
theorem ints_succ (A : Nat → Int) (k : Nat) : ints A k ++ [.int .i64 (A k)] = ints A (k + 1) := by unfold ints; rw [List.range_succ, List.map_append]; rfl
theorem info_int : (Try.prog.info? 3).map (fun i => (i.zero, i.size, i.bytes)) = some (some (.int .i64 0), 1, 8) := by kernel_rfl

set_option maxHeartbeats 1000000 in
set_option maxRecDepth 100000 in
theorem twin_any (p : Option Addr) (n cap : Nat) (A : Nat → Int) (w : World) (hn : n ≤ 1048576) (hI : Ints w p n A) :
    Calls Try.prog 41 #[.slice p n cap] w fun e w' => ∃ g, e = .returned (.slice (some ⟨g, 0, none⟩) n (n + 1)) ∧ w.heap.size ≤ g ∧ w'.ownsRow w.heap.size 3 1 (.slice (some ⟨g, 0, none⟩) (n + 1) (n + 1)) (n + 1) (ints A n ++ [.int .i64 7777]) ∧ Below w.heap.size w w' := by
  obtain ⟨i0, hi, hz0, hz1, hz2⟩ := info_parts info_int
  have HI := Lib.hid hi
  have HZ0 := Lib.hid hz0
  have HZ1 := Lib.hid hz1
  have HZ2 := Lib.hid hz2
  clear hi hz0 hz1 hz2
  have HA := Lib.hid hI
  clear hI
  go_enter Try.func41, Try.ntmps41
  go_wp2_with (at_make; refine wpList_make_own _ rfl _ _ 23 rfl w.heap.size 3 i0 (.int .i64 0) 1 Try.underlying23 HI.out HZ0.out HZ1.out .i64 .i64 _ (n + 1) rfl rfl ?c1 ?c2 ?c3 ?c4 ?_)
  case c1 => omega
  case c2 => rw [HZ2.out]; omega
  case c3 => unfold maxLen; omega
  case c4 => exact Nat.le_refl _
  intro w1 hown1 hgrow1
  obtain ⟨g, hg⟩ : ∃ g, g = w.heap.size := ⟨_, rfl⟩
  rw [← hg] at hown1 ⊢
  have HO1 := Lib.hid hown1
  have HB1 : Hid (Below w.heap.size w w1) := Lib.hid ((Below.refl _ w).grown hgrow1 (Nat.le_refl _) (fun b e => by cases e))
  have HG := Lib.hid hg
  clear hown1 hgrow1 hg
  go_wp2_with fail
  go_loopw [3, 4] (fun v i wr => ∃ (k : Nat), k ≤ n ∧ i = .int .i64 k ∧ v = .slice (some ⟨g, 0, none⟩) k (n + 1) ∧ Hid (wr.ownsRow w.heap.size 3 1 (.slice (some ⟨g, 0, none⟩) k (n + 1)) k (ints A k)) ∧ Hid (Below w.heap.size w wr)) (fun _ i _ => n - (intOf i).toNat)
  case atStart => exact ⟨0, by omega, rfl, rfl, by rw [HG.out] at HO1 ⊢; exact HO1, HB1⟩
  case round =>
    obtain ⟨k, hk, rfl, rfl, HO, HW⟩ := hrel
    clear HO1 HB1
    by_cases hlt : k < n
    · have hlt' : (k : Int) < (n : Int) := by omega
      obtain ⟨gp, op, rfl, hgp, hc⟩ := HA.out k hlt
      rw [← HW.out.cell (p := ⟨gp, op + k, none⟩) hgp] at hc
      go_wp2_with (at_builtin; refine wpList_append_fits _ rfl _ _ 23 rfl w.heap.size 3 i0 1 Try.underlying23 HI.out HZ1.out g k (n + 1) (ints A k) rfl (HO.out.alloc _) ⟨wr.heap.size, 0, none⟩ 1 1 [.int .i64 (A k)] rfl rfl ?c1 ?c2 ?c3 ?_)
      case c1 =>
        intro j u hj
        have h0 : j = 0 := by
          match j, hj with
          | 0, _ => rfl
          | j + 1, hj => simp at hj
        subst h0
        simp at hj
        subst hj
        go_simp
      case c2 => simp [Value.oneCell']
      case c3 => omega
      intro w2 hown2 hgrow2
      rw [ints_succ] at hown2
      have HO2 := Lib.hid hown2
      have HW2 : Hid (Below w.heap.size w w2) := Lib.hid ((HW.out.alloc HW.out.size _).grown hgrow2 (by have := HW.out.size; simp; omega) (fun b e => by injection e with e; rw [← e, HG.out]; exact Nat.le_refl _))
      clear hown2 hgrow2
      go_wp2_with fail
      exact ⟨⟨k + 1, by omega, by go_num, rfl, HO2, HW2⟩, by simp [intOf]; omega⟩
    · have e : k = n := by omega
      subst e
      go_wp2_with (at_builtin; refine wpList_append_fits _ rfl _ _ 23 rfl w.heap.size 3 i0 1 Try.underlying23 HI.out HZ1.out g k (k + 1) (ints A k) rfl (HO.out.alloc _) ⟨wr.heap.size, 0, none⟩ 1 1 [.int .i64 7777] rfl rfl ?c1 ?c2 ?c3 ?_)
      case c1 =>
        intro j u hj
        have h0 : j = 0 := by
          match j, hj with
          | 0, _ => rfl
          | j + 1, hj => simp at hj
        subst h0
        simp at hj
        subst hj
        go_simp
      case c2 => simp [Value.oneCell']
      case c3 => omega
      intro w2 hown2 hgrow2
      have HO2 := Lib.hid hown2
      have HW2 : Hid (Below w.heap.size w w2) := Lib.hid ((HW.out.alloc HW.out.size _).grown hgrow2 (by have := HW.out.size; simp; omega) (fun b e => by injection e with e; rw [← e, HG.out]; exact Nat.le_refl _))
      clear hown2 hgrow2
      have hkk : (k : Int) ≤ (k : Int) + 1 := by omega
      go_wp2_with fail
      go_ret
      exact ⟨g, rfl, by rw [HG.out]; exact Nat.le_refl _, HO2.out, HW2.out⟩

set_option maxHeartbeats 1000000 in
set_option maxRecDepth 100000 in
theorem left_any (g : Nat) (p : Option Addr) (n cap : Nat) (A : Nat → Int) (w : World) (hn : n ≤ 1048576) (hT : ∀ i, i < n → w.cell? ⟨g, i, none⟩ = some (.int .i64 (A i))) (hM : w.cell? ⟨g, n, none⟩ = some (.int .i64 7777)) (hI : Ints w p n A) :
    Calls Try.prog 43 #[.slice (some ⟨g, 0, none⟩) n (n + 1), .slice p n cap] w fun e w' => e = .returned (.bool true) ∧ ∃ m, w' = w.drewN m := by
  have HT := Lib.hid hT
  have HA := Lib.hid hI
  have HM := Lib.hid hM
  clear hT hI hM
  have hnn : ¬ ((n : Int) + 1 ≤ (n : Int)) := by omega
  go_enter Try.func43, Try.ntmps43
  go_wp2_with fail
  go_loopw [5] (fun i wr => ∃ (k m : Nat), k ≤ n ∧ i = .int .i64 k ∧ wr = w.drewN m) (fun i _ => n - (intOf i).toNat)
  case atStart => exact ⟨0, 0, by omega, rfl, rfl⟩
  case round =>
    obtain ⟨k, m, hk, rfl, rfl⟩ := hrel
    by_cases hlt : k < n
    · have hlt' : (k : Int) < (n : Int) := by omega
      obtain ⟨gp, op, rfl, hgp, hc⟩ := HA.out k hlt
      have ht1 := HT.out k hlt
      go_wp2_with fail
      refine wp_region_q [0,0,0,1,0,0,0,1,0] (by kernel_rfl) (by kernel_rfl) ?_
      (refine q_pure_n rfl (fun K hK => ?_); go_simp; refine hK _ _ ?_; clear hK K)
      (refine q_pure_n rfl (fun K hK => ?_); go_simp; refine hK _ _ ?_; clear hK K)
      (refine q_pure_n rfl (fun K hK => ?_); go_simp; refine hK _ _ ?_; clear hK K)
      (refine q_read_n rfl (fun K hK => ?_); go_simp; refine hK _ _ ?_; clear hK K)
      (refine q_pure_n rfl (fun K hK => ?_); go_simp; refine hK _ _ ?_; clear hK K)
      (refine q_pure_n rfl (fun K hK => ?_); go_simp; refine hK _ _ ?_; clear hK K)
      (refine q_pure_n rfl (fun K hK => ?_); go_simp; refine hK _ _ ?_; clear hK K)
      (refine q_read_n rfl (fun K hK => ?_); go_simp; refine hK _ _ ?_; clear hK K)
      (refine q_pure_n rfl (fun K hK => ?_); go_simp; refine hK _ _ ?_; clear hK K)
      refine q_nil ?_
      intro nq
      go_wp2_with fail
      refine ⟨⟨k + 1, m + nq, by omega, by go_num, by first | rfl | rw [World.drewN_drewN] | simp [World.drewN_drewN]⟩, by simp [intOf]; omega⟩
    · have e : k = n := by omega
      subst e
      have hm1 := HM.out
      have hkk : (k : Int) + 1 ≤ (k : Int) + 1 := by omega
      have hk0 : (0 : Int) ≤ (k : Int) + 1 := by omega
      have hk1 : ((k : Int) + 1).toNat = k + 1 := by omega
      have hk2 : (k : Int) < (k : Int) + 1 := by omega
      go_wp2_with fail
      go_ret
      exact ⟨rfl, m, rfl⟩
end Go.Proofs.Ytjjcicfilbfbjaa.Gon
