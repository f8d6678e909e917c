/- SameTexts says yes of two lists that hold the same texts; how sizes that do not pass the bound add up. -/
import Derived.Test.YtjjcicfilbfbjaaAlive04
import Derived.Test.YtjjcicfilbfbjaaBey
namespace Go.Proofs.Ytjjcicfilbfbjaa.Dsk
open Go.RowKit Go.Maps Go.Sort Go.Proofs.Ytjjcicfilbfbjaa.Pin Go.Proofs.Ytjjcicfilbfbjaa.Gon Go.Proofs.Ytjjcicfilbfbjaa.Mps

set_option maxHeartbeats 400000 in
theorem same_yes (ss : List ByteArray) (p q : Nat) (c d : Nat) (w : World) (hl : ss.length ≤ 1000000) (h1 : ∀ k (h : k < ss.length), w.cell? ⟨p, k, none⟩ = some (.string ss[k])) (h2 : ∀ k (h : k < ss.length), w.cell? ⟨q, k, none⟩ = some (.string ss[k])) :
    Calls Try.prog 19 #[.slice (some ⟨p, 0, none⟩) ss.length c, .slice (some ⟨q, 0, none⟩) ss.length d] w fun e w' => e = .returned (.bool true) ∧ ∃ m, w' = w.drewN m := by
  have H1 := Lib.hid h1
  have H2 := Lib.hid h2
  obtain ⟨L, hL⟩ : ∃ L, L = ss.length := ⟨_, rfl⟩
  rw [← hL]
  have HL := Lib.hid hL
  have hLb : L ≤ 1000000 := by omega
  clear h1 h2 hL hl
  go_enter Try.func19, Try.ntmps19
  go_wp2_with fail
  go_loopw [5] (fun i wr => ∃ (k m : Nat), k ≤ L ∧ i = .int .i64 k ∧ wr = w.drewN m) (fun i _ => L - (intOf i).toNat)
  case atStart => exact ⟨0, 0, by omega, rfl, rfl⟩
  case round =>
    obtain ⟨k, m, hk, rfl, rfl⟩ := hrel
    by_cases hlt : k < L
    · have hks : k < ss.length := by rw [← HL.out]; exact hlt
      obtain ⟨x, hx⟩ : ∃ x, x = ss[k] := ⟨_, rfl⟩
      have g1 : w.cell? ⟨p, k, none⟩ = some (.string x) := by rw [hx]; exact H1.out k hks
      have g2 : w.cell? ⟨q, k, none⟩ = some (.string x) := by rw [hx]; exact H2.out k hks
      have hlt' : (k : Int) < (L : Int) := by omega
      clear hx
      go_wp2_with fail
      refine wp_region_q [0,0,0,1,0,0,0,1,0] (by kernel_rfl) (by kernel_rfl) ?_
      (refine q_pure_n rfl (fun K hK => ?_); go_simp; refine hK _ _ ?_; clear hK K)
      (refine q_pure_n rfl (fun K hK => ?_); go_simp; refine hK _ _ ?_; clear hK K)
      (refine q_pure_n rfl (fun K hK => ?_); go_simp; refine hK _ _ ?_; clear hK K)
      (refine q_read_n rfl (fun K hK => ?_); go_simp; refine hK _ _ ?_; clear hK K)
      (refine q_pure_n rfl (fun K hK => ?_); go_simp; refine hK _ _ ?_; clear hK K)
      (refine q_pure_n rfl (fun K hK => ?_); go_simp; refine hK _ _ ?_; clear hK K)
      (refine q_pure_n rfl (fun K hK => ?_); go_simp; refine hK _ _ ?_; clear hK K)
      (refine q_read_n rfl (fun K hK => ?_); go_simp; refine hK _ _ ?_; clear hK K)
      (refine q_pure_n rfl (fun K hK => ?_); go_simp; refine hK _ _ ?_; clear hK K)
      refine q_nil ?_
      intro nq
      go_wp2_with fail
      go_roundw
      case rel => exact ⟨k + 1, m + nq, by omega, by go_num, by simp⟩
      case measure => simp [intOf]; omega
    · have hlt' : ¬ ((k : Int) < (L : Int)) := by omega
      go_wp2_with fail
      go_ret
      exact ⟨rfl, m, rfl⟩
theorem bey4 {a b c d : Int} (h : Bey.beyond 0 [a, b, c, d] = false) : a + b + c + d ≤ 1048576 := by
  unfold Bey.beyond at h
  split at h
  · cases h
  unfold Bey.beyond at h
  split at h
  · cases h
  unfold Bey.beyond at h
  split at h
  · cases h
  unfold Bey.beyond at h
  split at h
  · cases h
  omega
theorem bey1 {a : Int} (h : Bey.beyond 0 [a] = false) : a ≤ 1048576 := by
  unfold Bey.beyond at h
  split at h
  · cases h
  omega
end Go.Proofs.Ytjjcicfilbfbjaa.Dsk
