/- Chapter 24: are no two members alike, in the document. Printed by gen_refu24.py. -/
import Derived.Test.YtpnmhldaaaemeaaRefQ24
namespace Go.Proofs.Ytpnmhldaaaemeaa.Snp
open Go.RowKit Go.Proofs.Ytpnmhldaaaemeaa.Pin

theorem nms_take {l : List Sc} {k : Nat} (h : k < l.length) : ((l.map fun s => Value.string s.1).take (k + 1)) = ((l.map fun s => Value.string s.1).take k) ++ [Value.string l[k].1] := by
  rw [List.take_succ_eq_append_getElem (by simpa using h), List.getElem_map]
set_option maxHeartbeats 4000000 in
set_option maxRecDepth 100000 in
theorem ref_unlike (l : List Sc) (v : Value) (w : World) (hT : ScoredsAt w w.heap.size v l) (hl : l.length ≤ 1048576) : Asks 110 #[v] w ((l.map (·.1)).Nodup) := by
  obtain ⟨A, c, rfl, hT⟩ := hT
  unfold Asks
  obtain ⟨i0, hi, hz0, hz1, hz2⟩ := info_parts info_text
  have HI := Lib.hid hi
  have HZ0 := Lib.hid hz0
  have HZ1 := Lib.hid hz1
  have HZ2 := Lib.hid hz2
  clear hi hz0 hz1 hz2
  obtain ⟨L, hL⟩ : ∃ L, L = l.length := ⟨_, rfl⟩
  rw [← hL] at hl ⊢
  have HL := Lib.hid hL
  have HT := Lib.hid hT
  clear hL hT
  go_enter Try.func110, Try.ntmps110
  go_wp2_with fail
  go_loopw [3, 4] (fun s i wr => ∃ (k : Nat), k ≤ L ∧ i = .int .i64 k ∧ Hid (wr.ownsRow w.heap.size 9 1 s k ((l.map fun s => Value.string s.1).take k)) ∧ Hid (Below w.heap.size w wr)) (fun _ i _ => L - (intOf i).toNat)
  case atStart => exact ⟨0, by omega, rfl, Lib.hid (World.ownsRow_nil _ _ _ _), Lib.hid (Below.refl _ _)⟩
  case round =>
    obtain ⟨k, hk, rfl, HO, HW⟩ := hrel
    by_cases hlt : k < L
    · have hlt' : (k : Int) < (L : Int) := by omega
      have hkl : k < l.length := by rw [← HL.out]; exact hlt
      obtain ⟨r, o, rfl, hr, hc⟩ := HT.out (by have := HL.out; omega)
      have g1 := (HW.out.cell (p := ⟨r, _, none⟩) hr).trans (hc k hkl).1
      obtain ⟨x, hx⟩ : ∃ x, x = l[k].1 := ⟨_, rfl⟩
      rw [← hx] at g1
      have HX := Lib.hid hx
      clear hx hc
      go_wp2_with (at_builtin; refine wpList_append_own _ rfl _ _ 23 rfl w.heap.size 9 i0 (.string ⟨#[]⟩) 1 16 Try.underlying23 HI.out HZ0.out HZ1.out HZ2.out rfl (by decide) _ _ _ rfl (HO.out.alloc _) ⟨wr.heap.size, 0, none⟩ 1 1 [.string x] rfl rfl ?c1 ?c2 ?c3 ?c4 ?c5 ?_)
      case c1 =>
        intro j u hj
        have h0 : j = 0 := by
          match j, hj with
          | 0, _ => rfl
          | j + 1, hj => simp at hj
        subst h0
        simp at hj
        subst hj
        go_simp
      case c2 => simp [Value.oneCell']
      case c3 => unfold maxLen; omega
      case c4 => omega
      case c5 => have := HW.out.size; simp; omega
      intro v' w4 hown4 hgrow4 _
      have HO4 : Hid (w4.ownsRow w.heap.size 9 1 v' (k + 1) ((l.map fun s => Value.string s.1).take (k + 1))) := Lib.hid (by rw [nms_take hkl, ← HX.out]; exact hown4)
      have HW4 : Hid (Below w.heap.size w w4) := Lib.hid (grown_to (HW.out.alloc HW.out.size _) hgrow4 (fun b e => (HO.out.lt b e).1) (Nat.le_refl _))
      clear hown4 hgrow4
      go_wp2_with fail
      exact ⟨⟨k + 1, by omega, by go_num, HO4, HW4⟩, by simp [intOf]; omega⟩
    · have hlt' : ¬ (k : Int) < (L : Int) := by omega
      have hkL : k = l.length := by have := HL.out; omega
      have HO2 : Hid (wr.ownsRow w.heap.size 9 1 _ (l.map (·.1)).length ((l.map (·.1)).map Value.string)) := Lib.hid (by
        have h := HO.out
        rw [hkL, List.take_of_length_le (by simp)] at h
        rw [List.length_map, List.map_map]
        exact h)
      clear hkL
      go_wp2_with fail
      refine (ref_sorted _ (l.map (·.1)) _ _ (Nat.le_refl _) (slt_own HO2.out) (by have := HL.out; simp; omega)).mono ?_
      rintro e w1 ⟨rv, s, rfl, hs1, hs2, hs3, hs4⟩
      have HS2 := Lib.hid hs2
      have HS3 := Lib.hid hs3
      have HS4 : Hid (Below w.heap.size w w1) := Lib.hid (HW.out.trans (hs4.mono HW.out.size))
      obtain ⟨A2, c2, rfl, hc2, hs1⟩ := hs1
      obtain ⟨M, hM⟩ : ∃ M, M = s.length := ⟨_, rfl⟩
      have hMl : M ≤ 1048576 := by have := hs2.length_eq; have := HL.out; simp at *; omega
      have HM := Lib.hid hM
      have HS1 := Lib.hid hs1
      rw [← hM]
      clear hs1 hs2 hs3 hs4 hc2 hM
      go_wp2_with fail
      go_loopw [5] (fun i wr => ∃ (k n : Nat), 1 ≤ k ∧ (k ≤ M ∨ k = 1) ∧ i = .int .i64 k ∧ wr = w1.drewN n ∧ Hid (NoTwin s k)) (fun i _ => M - (intOf i).toNat)
      case atStart => exact ⟨1, 0, by omega, .inr rfl, rfl, rfl, Lib.hid (fun j _ h h0 => absurd h (by omega))⟩
      case round =>
        obtain ⟨k, n, hk1, hk, rfl, rfl, HU⟩ := hrel
        by_cases hlt : k < M
        · have hlt' : (k : Int) < (M : Int) := by omega
          have hkl : k < s.length := by rw [← HM.out]; exact hlt
          obtain ⟨r, o, rfl, hr, hc⟩ := HS1.out (by have := HM.out; omega)
          have g1 := hc k hkl
          have g2 := hc (k - 1) (by omega)
          obtain ⟨x, hx⟩ : ∃ x, x = s[k] := ⟨_, rfl⟩
          obtain ⟨y, hy⟩ : ∃ y, y = s[k - 1] := ⟨_, rfl⟩
          rw [← hx] at g1
          rw [← hy] at g2
          have HX := Lib.hid hx
          have HY := Lib.hid hy
          obtain ⟨kp, hkp⟩ : ∃ kp, kp = k - 1 := ⟨_, rfl⟩
          have hkpl : (kp : Int) < (M : Int) := by omega
          have hwk : IntKind.i64.wrap ((k : Int) - 1) = (kp : Int) := by rw [IntKind.wrap_i64]; omega
          rw [← hkp] at g2
          clear hx hy hkp hc
          by_cases he : y = x
          · have HN := Lib.hid he
            have q : (y.toList == x.toList) = true := by rw [he]; simp
            clear he
            go_wp2_with fail
            refine wp_region_q [0,0,0,0,1,0,0,0,1,0] (by kernel_rfl) (by kernel_rfl) ?_
            (refine q_pure_n rfl (fun K hK => ?_); go_simp; refine hK _ _ ?_; clear hK K)
            (refine q_pure_n rfl (fun K hK => ?_); go_simp; refine hK _ _ ?_; clear hK K)
            (refine q_pure_n rfl (fun K hK => ?_); go_simp; refine hK _ _ ?_; clear hK K)
            (refine q_pure_n rfl (fun K hK => ?_); go_simp; refine hK _ _ ?_; clear hK K)
            (refine q_read_n rfl (fun K hK => ?_); go_simp; refine hK _ _ ?_; clear hK K)
            (refine q_pure_n rfl (fun K hK => ?_); go_simp; refine hK _ _ ?_; clear hK K)
            (refine q_pure_n rfl (fun K hK => ?_); go_simp; refine hK _ _ ?_; clear hK K)
            (refine q_pure_n rfl (fun K hK => ?_); go_simp; refine hK _ _ ?_; clear hK K)
            (refine q_read_n rfl (fun K hK => ?_); go_simp; refine hK _ _ ?_; clear hK K)
            (refine q_pure_n rfl (fun K hK => ?_); go_simp; refine hK _ _ ?_; clear hK K)
            refine q_nil ?_
            intro nq
            go_wp2_with fail
            go_ret
            refine ⟨ret_no (fun h => ?_), below_drewN (below_drewN HS4.out _) _⟩
            have h2 := (nodup_iff HS3.out).2 (HS2.out.nodup_iff.2 h) k hkl hkl (by omega)
            rw [← HX.out, ← HY.out] at h2
            exact h2 HN.out
          · have HN := Lib.hid he
            have q : (y.toList == x.toList) = false := by
              cases hq : (y.toList == x.toList) with
              | false => rfl
              | true => exact absurd (text_ext (eq_of_beq hq)) he
            clear he
            go_wp2_with fail
            refine wp_region_q [0,0,0,0,1,0,0,0,1,0] (by kernel_rfl) (by kernel_rfl) ?_
            (refine q_pure_n rfl (fun K hK => ?_); go_simp; refine hK _ _ ?_; clear hK K)
            (refine q_pure_n rfl (fun K hK => ?_); go_simp; refine hK _ _ ?_; clear hK K)
            (refine q_pure_n rfl (fun K hK => ?_); go_simp; refine hK _ _ ?_; clear hK K)
            (refine q_pure_n rfl (fun K hK => ?_); go_simp; refine hK _ _ ?_; clear hK K)
            (refine q_read_n rfl (fun K hK => ?_); go_simp; refine hK _ _ ?_; clear hK K)
            (refine q_pure_n rfl (fun K hK => ?_); go_simp; refine hK _ _ ?_; clear hK K)
            (refine q_pure_n rfl (fun K hK => ?_); go_simp; refine hK _ _ ?_; clear hK K)
            (refine q_pure_n rfl (fun K hK => ?_); go_simp; refine hK _ _ ?_; clear hK K)
            (refine q_read_n rfl (fun K hK => ?_); go_simp; refine hK _ _ ?_; clear hK K)
            (refine q_pure_n rfl (fun K hK => ?_); go_simp; refine hK _ _ ?_; clear hK K)
            refine q_nil ?_
            intro nq
            go_wp2_with fail
            go_roundw
            case rel => exact ⟨k + 1, n + nq, by omega, .inl (by omega), by go_num, by simp, Lib.hid (notwin_succ HU.out hkl (fun _ => by rw [← HX.out, ← HY.out]; exact HN.out))⟩
            case measure => simp [intOf]; omega
        · have hlt' : ¬ (k : Int) < (M : Int) := by omega
          have hnt : NoTwin s s.length := fun j hj _ h0 => HU.out j hj (by have := HM.out; omega) h0
          have HNT := Lib.hid hnt
          clear hnt
          go_wp2_with fail
          go_ret
          exact ⟨ret_yes (HS2.out.nodup_iff.1 ((nodup_iff HS3.out).1 HNT.out)), below_drewN HS4.out _⟩
end Go.Proofs.Ytpnmhldaaaemeaa.Snp
