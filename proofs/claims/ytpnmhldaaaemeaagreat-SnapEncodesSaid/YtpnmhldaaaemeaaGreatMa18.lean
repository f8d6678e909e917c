import Derived.Test.YtpnmhldaaaemeaaGreatMa17
import Derived.Test.YtpnmhldaaaemeaaGreatMa5
/- Chapter 24: are no two members alike, in the document. Printed by gen_refu24.py. -/
namespace Go.Proofs.YtpnmhldaaaemeaaGreat.Snp
open Go.RowKit Go.Proofs.YtpnmhldaaaemeaaGreat.Pin

theorem nms_take {l : List Sc} {k : Nat} (h : k < l.length) : ((l.map fun s => Value.string s.1).take (k + 1)) = ((l.map fun s => Value.string s.1).take k) ++ [Value.string l[k].1] := by
  rw [List.take_succ_eq_append_getElem (by simpa using h), List.getElem_map]
set_option maxHeartbeats 4000000 in
set_option maxRecDepth 100000 in
theorem ref_unlike (l : List Sc) (v : Value) (w : World) (hT : ScoredsAt w w.heap.size v l) (hl : l.length ≤ 1048576) : Asks 119 #[v] w ((l.map (·.1)).Nodup) := by
  obtain ⟨A, c, rfl, hT⟩ := hT
  unfold Asks
  obtain ⟨i0, hi, hz0, hz1, hz2⟩ := info_parts info_text
  have HI := Lib.hid hi
  have HZ0 := Lib.hid hz0
  have HZ1 := Lib.hid hz1
  have HZ2 := Lib.hid hz2
  clear hi hz0 hz1 hz2
  obtain ⟨L, hL⟩ : ∃ L, L = l.length := ⟨_, rfl⟩
  rw [← hL] at hl ⊢
  have HL := Lib.hid hL
  have HT := Lib.hid hT
  clear hL hT
  go_enter Tryz.func119, Tryz.ntmps119
  go_wp2_with fail
  go_loopw [3, 4] (fun s i wr => ∃ (k : Nat), k ≤ L ∧ i = .int .i64 k ∧ Hid (wr.ownsRow w.heap.size 9 1 s k ((l.map fun s => Value.string s.1).take k)) ∧ Hid (Below w.heap.size w wr)) (fun _ i _ => L - (intOf i).toNat)
  case atStart => exact ⟨0, by omega, rfl, Lib.hid (World.ownsRow_nil _ _ _ _), Lib.hid (Below.refl _ _)⟩
  case round =>
    obtain ⟨k, hk, rfl, HO, HW⟩ := hrel
    by_cases hlt : k < L
    · have hlt' : (k : Int) < (L : Int) := by omega
      have hkl : k < l.length := by rw [← HL.out]; exact hlt
      obtain ⟨r, o, rfl, hr, hc⟩ := HT.out (by have := HL.out; omega)
      have g1 := (HW.out.cell (p := ⟨r, _, none⟩) hr).trans (hc k hkl).1
      obtain ⟨x, hx⟩ : ∃ x, x = l[k].1 := ⟨_, rfl⟩
      rw [← hx] at g1
      have HX := Lib.hid hx
      clear hx hc
      go_wp2_with (at_builtin; refine wpList_append_own _ rfl _ _ 34 rfl w.heap.size 9 i0 (.string ⟨#[]⟩) 1 16 Tryz.underlying34 HI.out HZ0.out HZ1.out HZ2.out rfl (by decide) _ _ _ rfl (HO.out.alloc _) ⟨wr.heap.size, 0, none⟩ 1 1 [.string x] rfl rfl ?c1 ?c2 ?c3 ?c4 ?c5 ?_)
      case c1 =>
        intro j u hj
        have h0 : j = 0 := by
          match j, hj with
          | 0, _ => rfl
          | j + 1, hj => simp at hj
        subst h0
        simp at hj
        subst hj
        go_simp
      case c2 => simp [Value.oneCell']
      case c3 => unfold maxLen; omega
      case c4 => omega
      case c5 => have := HW.out.size; simp; omega
      intro v' w4 hown4 hgrow4 _
      have HO4 : Hid (w4.ownsRow w.heap.size 9 1 v' (k + 1) ((l.map fun s => Value.string s.1).take (k + 1))) := Lib.hid (by rw [nms_take hkl, ← HX.out]; exact hown4)
      have HW4 : Hid (Below w.heap.size w w4) := Lib.hid (grown_to (HW.out.alloc HW.out.size _) hgrow4 (fun b e => (HO.out.lt b e).1) (Nat.le_refl _))
      clear hown4 hgrow4
      go_wp2_with fail
      exact ⟨⟨k + 1, by omega, by go_num, HO4, HW4⟩, by simp [intOf]; omega⟩
    · have hlt' : ¬ (k : Int) < (L : Int) := by omega
      have hkL : k = l.length := by have := HL.out; omega
      have HO2 : Hid (wr.ownsRow w.heap.size 9 1 _ (l.map (·.1)).length ((l.map (·.1)).map Value.string)) := Lib.hid (by
        have h := HO.out
        rw [hkL, List.take_of_length_le (by simp)] at h
        rw [List.length_map, List.map_map]
        exact h)
      clear hkL
      go_wp2_with fail
      refine (ref_sorted _ (l.map (·.1)) _ _ (Nat.le_refl _) (slt_own HO2.out) (by have := HL.out; simp; omega)).mono ?_
      rintro e w1 ⟨rv, s, rfl, hs1, hs2, hs3, hs4⟩
      have HS2 := Lib.hid hs2
      have HS3 := Lib.hid hs3
      have HS4 : Hid (Below w.heap.size w w1) := Lib.hid (HW.out.trans (hs4.mono HW.out.size))
      obtain ⟨A2, c2, rfl, hc2, hs1⟩ := hs1
      obtain ⟨M, hM⟩ : ∃ M, M = s.length := ⟨_, rfl⟩
      have hMl : M ≤ 1048576 := by have := hs2.length_eq; have := HL.out; simp at *; omega
      have HM := Lib.hid hM
      have HS1 := Lib.hid hs1
      rw [← hM]
      clear hs1 hs2 hs3 hs4 hc2 hM
      go_wp2_with fail
      go_loopw [5] (fun i wr => ∃ (k n : Nat), 1 ≤ k ∧ (k ≤ M ∨ k = 1) ∧ i = .int .i64 k ∧ wr = w1.drewN n ∧ Hid (NoTwin s k)) (fun i _ => M - (intOf i).toNat)
      case atStart => exact ⟨1, 0, by omega, .inr rfl, rfl, rfl, Lib.hid (fun j _ h h0 => absurd h (by omega))⟩
      case round =>
        obtain ⟨k, n, hk1, hk, rfl, rfl, HU⟩ := hrel
        by_cases hlt : k < M
        · have hlt' : (k : Int) < (M : Int) := by omega
          have hkl : k < s.length := by rw [← HM.out]; exact hlt
          obtain ⟨r, o, rfl, hr, hc⟩ := HS1.out (by have := HM.out; omega)
          have g1 := hc k hkl
          have g2 := hc (k - 1) (by omega)
          obtain ⟨x, hx⟩ : ∃ x, x = s[k] := ⟨_, rfl⟩
          obtain ⟨y, hy⟩ : ∃ y, y = s[k - 1] := ⟨_, rfl⟩
          rw [← hx] at g1
          rw [← hy] at g2
          have HX := Lib.hid hx
          have HY := Lib.hid hy
          obtain ⟨kp, hkp⟩ : ∃ kp, kp = k - 1 := ⟨_, rfl⟩
          have hkpl : (kp : Int) < (M : Int) := by omega
          have hwk : IntKind.i64.wrap ((k : Int) - 1) = (kp : Int) := by rw [IntKind.wrap_i64]; omega
          rw [← hkp] at g2
          clear hx hy hkp hc
          by_cases he : y = x
          · have HN := Lib.hid he
            have q : (y.toList == x.toList) = true := by rw [he]; simp
            clear he
            go_wp2_with fail
            refine wp_region_q [0,0,0,0,1,0,0,0,1,0] (by kernel_rfl) (by kernel_rfl) ?_
            (refine q_pure_n rfl (fun K hK => ?_); go_simp; refine hK _ _ ?_; clear hK K)
            (refine q_pure_n rfl (fun K hK => ?_); go_simp; refine hK _ _ ?_; clear hK K)
            (refine q_pure_n rfl (fun K hK => ?_); go_simp; refine hK _ _ ?_; clear hK K)
            (refine q_pure_n rfl (fun K hK => ?_); go_simp; refine hK _ _ ?_; clear hK K)
            (refine q_read_n rfl (fun K hK => ?_); go_simp; refine hK _ _ ?_; clear hK K)
            (refine q_pure_n rfl (fun K hK => ?_); go_simp; refine hK _ _ ?_; clear hK K)
            (refine q_pure_n rfl (fun K hK => ?_); go_simp; refine hK _ _ ?_; clear hK K)
            (refine q_pure_n rfl (fun K hK => ?_); go_simp; refine hK _ _ ?_; clear hK K)
            (refine q_read_n rfl (fun K hK => ?_); go_simp; refine hK _ _ ?_; clear hK K)
            (refine q_pure_n rfl (fun K hK => ?_); go_simp; refine hK _ _ ?_; clear hK K)
            refine q_nil ?_
            intro nq
            go_wp2_with fail
            go_ret
            refine ⟨ret_no (fun h => ?_), below_drewN (below_drewN HS4.out _) _⟩
            have h2 := (nodup_iff HS3.out).2 (HS2.out.nodup_iff.2 h) k hkl hkl (by omega)
            rw [← HX.out, ← HY.out] at h2
            exact h2 HN.out
          · have HN := Lib.hid he
            have q : (y.toList == x.toList) = false := by
              cases hq : (y.toList == x.toList) with
              | false => rfl
              | true => exact absurd (text_ext (eq_of_beq hq)) he
            clear he
            go_wp2_with fail
            refine wp_region_q [0,0,0,0,1,0,0,0,1,0] (by kernel_rfl) (by kernel_rfl) ?_
            (refine q_pure_n rfl (fun K hK => ?_); go_simp; refine hK _ _ ?_; clear hK K)
            (refine q_pure_n rfl (fun K hK => ?_); go_simp; refine hK _ _ ?_; clear hK K)
            (refine q_pure_n rfl (fun K hK => ?_); go_simp; refine hK _ _ ?_; clear hK K)
            (refine q_pure_n rfl (fun K hK => ?_); go_simp; refine hK _ _ ?_; clear hK K)
            (refine q_read_n rfl (fun K hK => ?_); go_simp; refine hK _ _ ?_; clear hK K)
            (refine q_pure_n rfl (fun K hK => ?_); go_simp; refine hK _ _ ?_; clear hK K)
            (refine q_pure_n rfl (fun K hK => ?_); go_simp; refine hK _ _ ?_; clear hK K)
            (refine q_pure_n rfl (fun K hK => ?_); go_simp; refine hK _ _ ?_; clear hK K)
            (refine q_read_n rfl (fun K hK => ?_); go_simp; refine hK _ _ ?_; clear hK K)
            (refine q_pure_n rfl (fun K hK => ?_); go_simp; refine hK _ _ ?_; clear hK K)
            refine q_nil ?_
            intro nq
            go_wp2_with fail
            go_roundw
            case rel => exact ⟨k + 1, n + nq, by omega, .inl (by omega), by go_num, by simp, Lib.hid (notwin_succ HU.out hkl (fun _ => by rw [← HX.out, ← HY.out]; exact HN.out))⟩
            case measure => simp [intOf]; omega
        · have hlt' : ¬ (k : Int) < (M : Int) := by omega
          have hnt : NoTwin s s.length := fun j hj _ h0 => HU.out j hj (by have := HM.out; omega) h0
          have HNT := Lib.hid hnt
          clear hnt
          go_wp2_with fail
          go_ret
          exact ⟨ret_yes (HS2.out.nodup_iff.1 ((nodup_iff HS3.out).1 HNT.out)), below_drewN HS4.out _⟩
end Go.Proofs.YtpnmhldaaaemeaaGreat.Snp
/- Chapter 24: the document's lists. Printed by gen_ref24.py. -/
namespace Go.Proofs.YtpnmhldaaaemeaaGreat.Snp
open Go.RowKit Go.Proofs.YtpnmhldaaaemeaaGreat.Pin

theorem rtext_yes {s : ByteArray} (h : MayP s) (w : World) : Calls Tryz.prog 77 #[.string s] w fun e w' => e = .returned (.bool true) ∧ w = w' := by
  have h' : (s.size : Int) ≤ 65536 := by unfold MayP at h; omega
  go_enter Tryz.func77, Tryz.ntmps77
  go_wp2
  go_ret
  exact ⟨rfl, rfl⟩
theorem rtext_no {s : ByteArray} (h : ¬ MayP s) (w : World) : Calls Tryz.prog 77 #[.string s] w fun e w' => e = .returned (.bool false) ∧ w = w' := by
  have h' : ¬ (s.size : Int) ≤ 65536 := by unfold MayP at h; omega
  go_enter Tryz.func77, Tryz.ntmps77
  go_wp2
  go_ret
  exact ⟨rfl, rfl⟩
def AllL {α : Type} (may : α → Prop) (l : List α) : Prop := l.length ≤ 1048576 ∧ ∀ (j : Nat) (h : j < l.length), may l[j]
def AllTo {α : Type} (may : α → Prop) (l : List α) (k : Nat) : Prop := ∀ (j : Nat) (h : j < l.length), j < k → may l[j]
theorem allto_succ {α : Type} {may : α → Prop} {l : List α} {k : Nat} (h : AllTo may l k) (hk : k < l.length) (h1 : may l[k]) : AllTo may l (k + 1) := by
  intro j hj hlt
  by_cases e : j = k
  · subst e; exact h1
  · exact h j hj (by omega)
def Asc {α : Type} (ahead : α → α → Prop) (l : List α) (k : Nat) : Prop := ∀ (j : Nat) (h : j < l.length), j < k → ∀ _ : 0 < j, ahead (l[j - 1]'(by omega)) l[j]
theorem asc_succ {α : Type} {ahead : α → α → Prop} {l : List α} {k : Nat} (h : Asc ahead l k) (hk : k < l.length) (h1 : ∀ _ : 0 < k, ahead (l[k - 1]'(by omega)) l[k]) : Asc ahead l (k + 1) := by
  intro j hj hlt
  by_cases e : j = k
  · subst e; exact h1
  · exact h j hj (by omega)
theorem ris_iff {α : Type} {may : α → Prop} {ahead : α → α → Prop} {l : List α} : Ris may ahead l ↔ Asc ahead l l.length ∧ AllL may l :=
  ⟨fun h => ⟨fun j hj _ h0 => (h.2 j hj).2 h0, h.1, fun j hj => (h.2 j hj).1⟩, fun h => ⟨h.2.1, fun j hj => ⟨h.2.2 j hj, fun h0 => h.1 j hj hj h0⟩⟩⟩
set_option maxHeartbeats 1000000 in
theorem ref_texts (l : List ByteArray) (v : Value) (w : World) (hT : TextsAt w w.heap.size v l) (hl : l.length ≤ 140737488351232) : Asks 104 #[v] w (AllL MayP l) := by
  obtain ⟨A, c, rfl, hT⟩ := hT
  unfold Asks
  obtain ⟨L, hL⟩ : ∃ L, L = l.length := ⟨_, rfl⟩
  rw [← hL] at hl ⊢
  have HL := Lib.hid hL
  have HT := Lib.hid hT
  have hb : Below w.heap.size w w := Below.refl _ _
  clear hL hT
  by_cases hbig : (1048576 : Int) < (L : Int)
  · go_enter Tryz.func104, Tryz.ntmps104
    go_wp2_with fail
    go_ret
    exact ⟨ret_no (fun h => by have := h.1; have := HL.out; omega), Below.refl _ _⟩
  · go_enter Tryz.func104, Tryz.ntmps104
    go_wp2_with fail
    go_loop [3] (fun i => ∃ (k : Nat), k ≤ L ∧ i = .int .i64 k ∧ Hid (AllTo MayP l k)) (fun i => L - (intOf i).toNat)
    case atStart => exact ⟨0, by omega, rfl, Lib.hid (fun j _ h => absurd h (by omega))⟩
    case round =>
      obtain ⟨k, hk, rfl, HU⟩ := hrel
      by_cases hlt : k < L
      · have hlt' : (k : Int) < (L : Int) := by omega
        have hkl : k < l.length := by rw [← HL.out]; exact hlt
        obtain ⟨r, o, rfl, hr, hc⟩ := HT.out (by have := HL.out; omega)
        have g1 := (hb.cell (p := ⟨r, _, none⟩) hr).trans (hc k hkl)
        obtain ⟨x, hx⟩ : ∃ x, x = l[k] := ⟨_, rfl⟩
        rw [← hx] at g1
        have HX := Lib.hid hx
        clear hx hc
        by_cases m0 : ¬ MayP x
        · have M0 := Lib.hid m0
          clear m0
          go_wp2_with fail
          refine (rtext_no M0.out _).mono ?_
          rintro e w' ⟨rfl, rfl⟩
          go_wp2_with fail
          go_ret
          exact ⟨ret_no (fun h => by have h2 := h.2 k hkl; rw [← HX.out] at h2; exact M0.out h2), Below.refl _ _⟩
        · have M0 := Lib.hid (Classical.not_not.1 m0)
          clear m0
          go_wp2_with fail
          refine (rtext_yes M0.out _).mono ?_
          rintro e w' ⟨rfl, rfl⟩
          go_wp2_with fail
          go_round
          case rel => exact ⟨k + 1, by omega, by go_num, Lib.hid (allto_succ HU.out hkl (by rw [← HX.out]; exact M0.out))⟩
          case measure => simp [intOf]; omega
      · have hlt' : ¬ (k : Int) < (L : Int) := by omega
        have hkL : k = l.length := by have := HL.out; omega
        have HK := Lib.hid hkL
        clear hkL
        go_wp2_with fail
        go_ret
        have hu := HU.out
        rw [HK.out] at hu
        exact ⟨ret_yes ⟨by have := HL.out; omega, fun j hj => hu j hj hj⟩, Below.refl _ _⟩
set_option maxHeartbeats 1000000 in
theorem ref_pairs (l : List Pr) (v : Value) (w : World) (hT : PairsAt w w.heap.size v l) (hl : l.length ≤ 140737488351232) : Asks 118 #[v] w (AllL PairP l) := by
  obtain ⟨A, c, rfl, hT⟩ := hT
  unfold Asks
  obtain ⟨L, hL⟩ : ∃ L, L = l.length := ⟨_, rfl⟩
  rw [← hL] at hl ⊢
  have HL := Lib.hid hL
  have HT := Lib.hid hT
  have hb : Below w.heap.size w w := Below.refl _ _
  clear hL hT
  by_cases hbig : (1048576 : Int) < (L : Int)
  · go_enter Tryz.func118, Tryz.ntmps118
    go_wp2_with fail
    go_ret
    exact ⟨ret_no (fun h => by have := h.1; have := HL.out; omega), Below.refl _ _⟩
  · go_enter Tryz.func118, Tryz.ntmps118
    go_wp2_with fail
    go_loop [3] (fun i => ∃ (k : Nat), k ≤ L ∧ i = .int .i64 k ∧ Hid (AllTo PairP l k)) (fun i => L - (intOf i).toNat)
    case atStart => exact ⟨0, by omega, rfl, Lib.hid (fun j _ h => absurd h (by omega))⟩
    case round =>
      obtain ⟨k, hk, rfl, HU⟩ := hrel
      by_cases hlt : k < L
      · have hlt' : (k : Int) < (L : Int) := by omega
        have hkl : k < l.length := by rw [← HL.out]; exact hlt
        obtain ⟨r, o, rfl, hr, hc⟩ := HT.out (by have := HL.out; omega)
        obtain ⟨hca, hcb⟩ := hc k hkl
        have g1 := (hb.cell (p := ⟨r, _, none⟩) hr).trans hca
        have g2 := (hb.cell (p := ⟨r, _, none⟩) hr).trans hcb
        obtain ⟨x, hx⟩ : ∃ x, x = l[k] := ⟨_, rfl⟩
        rw [← hx] at g1 g2
        have HX := Lib.hid hx
        clear hx hc hca hcb
        by_cases m0 : ¬ MayP x.1
        · have M0 := Lib.hid m0
          clear m0
          go_wp2_with fail
          refine (rtext_no M0.out _).mono ?_
          rintro e w' ⟨rfl, rfl⟩
          go_wp2_with fail
          go_ret
          exact ⟨ret_no (fun h => by have h2 := h.2 k hkl; rw [← HX.out] at h2; exact M0.out h2.1), Below.refl _ _⟩
        · have M0 := Lib.hid (Classical.not_not.1 m0)
          clear m0
          by_cases m1 : ¬ MayP x.2
          · have M1 := Lib.hid m1
            clear m1
            go_wp2_with fail
            refine (rtext_yes M0.out _).mono ?_
            rintro e w' ⟨rfl, rfl⟩
            go_wp2_with fail
            refine (rtext_no M1.out _).mono ?_
            rintro e w' ⟨rfl, rfl⟩
            go_wp2_with fail
            go_ret
            exact ⟨ret_no (fun h => by have h2 := h.2 k hkl; rw [← HX.out] at h2; exact M1.out h2.2), Below.refl _ _⟩
          · have M1 := Lib.hid (Classical.not_not.1 m1)
            clear m1
            go_wp2_with fail
            refine (rtext_yes M0.out _).mono ?_
            rintro e w' ⟨rfl, rfl⟩
            go_wp2_with fail
            refine (rtext_yes M1.out _).mono ?_
            rintro e w' ⟨rfl, rfl⟩
            go_wp2_with fail
            go_round
            case rel => exact ⟨k + 1, by omega, by go_num, Lib.hid (allto_succ HU.out hkl (by rw [← HX.out]; exact ⟨M0.out, M1.out⟩))⟩
            case measure => simp [intOf]; omega
      · have hlt' : ¬ (k : Int) < (L : Int) := by omega
        have hkL : k = l.length := by have := HL.out; omega
        have HK := Lib.hid hkL
        clear hkL
        go_wp2_with fail
        go_ret
        have hu := HU.out
        rw [HK.out] at hu
        exact ⟨ret_yes ⟨by have := HL.out; omega, fun j hj => hu j hj hj⟩, Below.refl _ _⟩
set_option maxHeartbeats 1000000 in
theorem ref_set (l : List ByteArray) (v : Value) (w : World) (hT : TextsAt w w.heap.size v l) (hl : l.length ≤ 140737488351232) : Asks 106 #[v] w (0 < l.length ∧ Ris MayP LtS l) := by
  have HTT := Lib.hid hT
  obtain ⟨A, c, rfl, hT⟩ := hT
  unfold Asks
  have HSUB := Lib.hid (fun n => ref_texts l _ (w.drewN n) HTT.out hl)
  obtain ⟨L, hL⟩ : ∃ L, L = l.length := ⟨_, rfl⟩
  rw [← hL] at hl HSUB ⊢
  have HL := Lib.hid hL
  have HT := Lib.hid hT
  clear hL hT
  go_enter Tryz.func106, Tryz.ntmps106
  go_wp2_with fail
  go_loopw [3] (fun i wr => ∃ (k n : Nat), 1 ≤ k ∧ (k ≤ L ∨ k = 1) ∧ i = .int .i64 k ∧ wr = w.drewN n ∧ Hid (Asc LtS l k)) (fun i _ => L - (intOf i).toNat)
  case atStart => exact ⟨1, 0, by omega, .inr rfl, rfl, rfl, Lib.hid (fun j _ h h0 => absurd h (by omega))⟩
  case round =>
    obtain ⟨k, n, hk1, hk, rfl, rfl, HU⟩ := hrel
    by_cases hlt : k < L
    · have hlt' : (k : Int) < (L : Int) := by omega
      have hkl : k < l.length := by rw [← HL.out]; exact hlt
      obtain ⟨r, o, rfl, hr, hc⟩ := HT.out (by have := HL.out; omega)
      have g1 := hc k hkl
      have g2 := hc (k - 1) (by omega)
      obtain ⟨x, hx⟩ : ∃ x, x = l[k] := ⟨_, rfl⟩
      obtain ⟨y, hy⟩ : ∃ y, y = l[k - 1] := ⟨_, rfl⟩
      rw [← hx] at g1
      rw [← hy] at g2
      have HX := Lib.hid hx
      have HY := Lib.hid hy
      obtain ⟨kp, hkp⟩ : ∃ kp, kp = k - 1 := ⟨_, rfl⟩
      have hkpl : (kp : Int) < (L : Int) := by omega
      have hwk : IntKind.i64.wrap ((k : Int) - 1) = (kp : Int) := by rw [IntKind.wrap_i64]; omega
      rw [← hkp] at g2
      clear hx hy hkp hc
      by_cases hlt2 : ¬ LtS y x
      · have HN := Lib.hid hlt2
        have q : Op.bytesLess y.toList x.toList = false := by
          cases hq : Op.bytesLess y.toList x.toList with
          | false => rfl
          | true => exact absurd hq hlt2
        clear hlt2
        go_wp2_with fail
        refine wp_region_q [0,0,0,0,1,0,0,0,1,0] (by kernel_rfl) (by kernel_rfl) ?_
        (refine q_pure_n rfl (fun K hK => ?_); go_simp; refine hK _ _ ?_; clear hK K)
        (refine q_pure_n rfl (fun K hK => ?_); go_simp; refine hK _ _ ?_; clear hK K)
        (refine q_pure_n rfl (fun K hK => ?_); go_simp; refine hK _ _ ?_; clear hK K)
        (refine q_pure_n rfl (fun K hK => ?_); go_simp; refine hK _ _ ?_; clear hK K)
        (refine q_read_n rfl (fun K hK => ?_); go_simp; refine hK _ _ ?_; clear hK K)
        (refine q_pure_n rfl (fun K hK => ?_); go_simp; refine hK _ _ ?_; clear hK K)
        (refine q_pure_n rfl (fun K hK => ?_); go_simp; refine hK _ _ ?_; clear hK K)
        (refine q_pure_n rfl (fun K hK => ?_); go_simp; refine hK _ _ ?_; clear hK K)
        (refine q_read_n rfl (fun K hK => ?_); go_simp; refine hK _ _ ?_; clear hK K)
        (refine q_pure_n rfl (fun K hK => ?_); go_simp; refine hK _ _ ?_; clear hK K)
        refine q_nil ?_
        intro nq
        go_wp2_with fail
        go_ret
        refine ⟨ret_no (fun h => ?_), below_drewN (below_drewN (Below.refl _ _) _) _⟩
        have h2 := (ris_iff.1 h.2).1 k hkl hkl (by omega)
        rw [← HX.out, ← HY.out] at h2
        exact HN.out h2
      · have HN := Lib.hid (Classical.not_not.1 hlt2)
        have q : Op.bytesLess y.toList x.toList = true := Classical.not_not.1 hlt2
        clear hlt2
        go_wp2_with fail
        refine wp_region_q [0,0,0,0,1,0,0,0,1,0] (by kernel_rfl) (by kernel_rfl) ?_
        (refine q_pure_n rfl (fun K hK => ?_); go_simp; refine hK _ _ ?_; clear hK K)
        (refine q_pure_n rfl (fun K hK => ?_); go_simp; refine hK _ _ ?_; clear hK K)
        (refine q_pure_n rfl (fun K hK => ?_); go_simp; refine hK _ _ ?_; clear hK K)
        (refine q_pure_n rfl (fun K hK => ?_); go_simp; refine hK _ _ ?_; clear hK K)
        (refine q_read_n rfl (fun K hK => ?_); go_simp; refine hK _ _ ?_; clear hK K)
        (refine q_pure_n rfl (fun K hK => ?_); go_simp; refine hK _ _ ?_; clear hK K)
        (refine q_pure_n rfl (fun K hK => ?_); go_simp; refine hK _ _ ?_; clear hK K)
        (refine q_pure_n rfl (fun K hK => ?_); go_simp; refine hK _ _ ?_; clear hK K)
        (refine q_read_n rfl (fun K hK => ?_); go_simp; refine hK _ _ ?_; clear hK K)
        (refine q_pure_n rfl (fun K hK => ?_); go_simp; refine hK _ _ ?_; clear hK K)
        refine q_nil ?_
        intro nq
        go_wp2_with fail
        go_roundw
        case rel => exact ⟨k + 1, n + nq, by omega, .inl (by omega), by go_num, by simp, Lib.hid (asc_succ HU.out hkl (fun _ => by rw [← HX.out, ← HY.out]; exact HN.out))⟩
        case measure => simp [intOf]; omega
    · have hlt' : ¬ (k : Int) < (L : Int) := by omega
      have hasc : Asc LtS l l.length := fun j hj _ h0 => HU.out j hj (by have := HL.out; omega) h0
      have HA := Lib.hid hasc
      clear hasc
      by_cases h0 : 0 < L
      · have h0' : (0 : Int) < (L : Int) := by omega
        go_wp2_with fail
        refine (HSUB.out n).mono ?_
        rintro e w1 ⟨rfl, hb1⟩
        have HB1 : Hid (Below w.heap.size w w1) := Lib.hid ((below_drewN (Below.refl _ _) _).trans hb1)
        clear hb1
        go_wp2_with fail
        go_ret
        refine ⟨?_, HB1.out⟩
        have e1 : (AllL _ l) ↔ (0 < L ∧ Ris MayP LtS l) := ⟨fun h => ⟨h0, ris_iff.2 ⟨HA.out, h⟩⟩, fun h => (ris_iff.1 h.2).2⟩
        rw [← pb_congr e1]
        rfl
      · have h0' : ¬ (0 : Int) < (L : Int) := by omega
        go_wp2_with fail
        go_ret
        exact ⟨ret_no (fun h => by first | exact h.elim | exact h0 h.1), below_drewN (Below.refl _ _) _⟩
set_option maxHeartbeats 1000000 in
theorem ref_hash (l : List Pr) (v : Value) (w : World) (hT : PairsAt w w.heap.size v l) (hl : l.length ≤ 140737488351232) : Asks 105 #[v] w (0 < l.length ∧ Ris PairP (fun p q => LtS p.1 q.1) l) := by
  have HTT := Lib.hid hT
  obtain ⟨A, c, rfl, hT⟩ := hT
  unfold Asks
  have HSUB := Lib.hid (fun n => ref_pairs l _ (w.drewN n) HTT.out hl)
  obtain ⟨L, hL⟩ : ∃ L, L = l.length := ⟨_, rfl⟩
  rw [← hL] at hl HSUB ⊢
  have HL := Lib.hid hL
  have HT := Lib.hid hT
  clear hL hT
  go_enter Tryz.func105, Tryz.ntmps105
  go_wp2_with fail
  go_loopw [3] (fun i wr => ∃ (k n : Nat), 1 ≤ k ∧ (k ≤ L ∨ k = 1) ∧ i = .int .i64 k ∧ wr = w.drewN n ∧ Hid (Asc (fun p q : Pr => LtS p.1 q.1) l k)) (fun i _ => L - (intOf i).toNat)
  case atStart => exact ⟨1, 0, by omega, .inr rfl, rfl, rfl, Lib.hid (fun j _ h h0 => absurd h (by omega))⟩
  case round =>
    obtain ⟨k, n, hk1, hk, rfl, rfl, HU⟩ := hrel
    by_cases hlt : k < L
    · have hlt' : (k : Int) < (L : Int) := by omega
      have hkl : k < l.length := by rw [← HL.out]; exact hlt
      obtain ⟨r, o, rfl, hr, hc⟩ := HT.out (by have := HL.out; omega)
      have g1 := (hc k hkl).1
      have g2 := (hc (k - 1) (by omega)).1
      obtain ⟨x, hx⟩ : ∃ x, x = l[k] := ⟨_, rfl⟩
      obtain ⟨y, hy⟩ : ∃ y, y = l[k - 1] := ⟨_, rfl⟩
      rw [← hx] at g1
      rw [← hy] at g2
      have HX := Lib.hid hx
      have HY := Lib.hid hy
      obtain ⟨kp, hkp⟩ : ∃ kp, kp = k - 1 := ⟨_, rfl⟩
      have hkpl : (kp : Int) < (L : Int) := by omega
      have hwk : IntKind.i64.wrap ((k : Int) - 1) = (kp : Int) := by rw [IntKind.wrap_i64]; omega
      rw [← hkp] at g2
      clear hx hy hkp hc
      by_cases hlt2 : ¬ (fun p q : Pr => LtS p.1 q.1) y x
      · have HN := Lib.hid hlt2
        have q : Op.bytesLess y.1.toList x.1.toList = false := by
          cases hq : Op.bytesLess y.1.toList x.1.toList with
          | false => rfl
          | true => exact absurd hq hlt2
        clear hlt2
        go_wp2_with fail
        refine wp_region_q [0,0,0,0,0,1,0,0,0,0,1,0] (by kernel_rfl) (by kernel_rfl) ?_
        (refine q_pure_n rfl (fun K hK => ?_); go_simp; refine hK _ _ ?_; clear hK K)
        (refine q_pure_n rfl (fun K hK => ?_); go_simp; refine hK _ _ ?_; clear hK K)
        (refine q_pure_n rfl (fun K hK => ?_); go_simp; refine hK _ _ ?_; clear hK K)
        (refine q_pure_n rfl (fun K hK => ?_); go_simp; refine hK _ _ ?_; clear hK K)
        (refine q_pure_n rfl (fun K hK => ?_); go_simp; refine hK _ _ ?_; clear hK K)
        (refine q_read_n rfl (fun K hK => ?_); go_simp; refine hK _ _ ?_; clear hK K)
        (refine q_pure_n rfl (fun K hK => ?_); go_simp; refine hK _ _ ?_; clear hK K)
        (refine q_pure_n rfl (fun K hK => ?_); go_simp; refine hK _ _ ?_; clear hK K)
        (refine q_pure_n rfl (fun K hK => ?_); go_simp; refine hK _ _ ?_; clear hK K)
        (refine q_pure_n rfl (fun K hK => ?_); go_simp; refine hK _ _ ?_; clear hK K)
        (refine q_read_n rfl (fun K hK => ?_); go_simp; refine hK _ _ ?_; clear hK K)
        (refine q_pure_n rfl (fun K hK => ?_); go_simp; refine hK _ _ ?_; clear hK K)
        refine q_nil ?_
        intro nq
        go_wp2_with fail
        go_ret
        refine ⟨ret_no (fun h => ?_), below_drewN (below_drewN (Below.refl _ _) _) _⟩
        have h2 := (ris_iff.1 h.2).1 k hkl hkl (by omega)
        rw [← HX.out, ← HY.out] at h2
        exact HN.out h2
      · have HN := Lib.hid (Classical.not_not.1 hlt2)
        have q : Op.bytesLess y.1.toList x.1.toList = true := Classical.not_not.1 hlt2
        clear hlt2
        go_wp2_with fail
        refine wp_region_q [0,0,0,0,0,1,0,0,0,0,1,0] (by kernel_rfl) (by kernel_rfl) ?_
        (refine q_pure_n rfl (fun K hK => ?_); go_simp; refine hK _ _ ?_; clear hK K)
        (refine q_pure_n rfl (fun K hK => ?_); go_simp; refine hK _ _ ?_; clear hK K)
        (refine q_pure_n rfl (fun K hK => ?_); go_simp; refine hK _ _ ?_; clear hK K)
        (refine q_pure_n rfl (fun K hK => ?_); go_simp; refine hK _ _ ?_; clear hK K)
        (refine q_pure_n rfl (fun K hK => ?_); go_simp; refine hK _ _ ?_; clear hK K)
        (refine q_read_n rfl (fun K hK => ?_); go_simp; refine hK _ _ ?_; clear hK K)
        (refine q_pure_n rfl (fun K hK => ?_); go_simp; refine hK _ _ ?_; clear hK K)
        (refine q_pure_n rfl (fun K hK => ?_); go_simp; refine hK _ _ ?_; clear hK K)
        (refine q_pure_n rfl (fun K hK => ?_); go_simp; refine hK _ _ ?_; clear hK K)
        (refine q_pure_n rfl (fun K hK => ?_); go_simp; refine hK _ _ ?_; clear hK K)
        (refine q_read_n rfl (fun K hK => ?_); go_simp; refine hK _ _ ?_; clear hK K)
        (refine q_pure_n rfl (fun K hK => ?_); go_simp; refine hK _ _ ?_; clear hK K)
        refine q_nil ?_
        intro nq
        go_wp2_with fail
        go_roundw
        case rel => exact ⟨k + 1, n + nq, by omega, .inl (by omega), by go_num, by simp, Lib.hid (asc_succ HU.out hkl (fun _ => by rw [← HX.out, ← HY.out]; exact HN.out))⟩
        case measure => simp [intOf]; omega
    · have hlt' : ¬ (k : Int) < (L : Int) := by omega
      have hasc : Asc (fun p q : Pr => LtS p.1 q.1) l l.length := fun j hj _ h0 => HU.out j hj (by have := HL.out; omega) h0
      have HA := Lib.hid hasc
      clear hasc
      by_cases h0 : 0 < L
      · have h0' : (0 : Int) < (L : Int) := by omega
        go_wp2_with fail
        refine (HSUB.out n).mono ?_
        rintro e w1 ⟨rfl, hb1⟩
        have HB1 : Hid (Below w.heap.size w w1) := Lib.hid ((below_drewN (Below.refl _ _) _).trans hb1)
        clear hb1
        go_wp2_with fail
        go_ret
        refine ⟨?_, HB1.out⟩
        have e1 : (AllL _ l) ↔ (0 < L ∧ Ris PairP (fun p q => LtS p.1 q.1) l) := ⟨fun h => ⟨h0, ris_iff.2 ⟨HA.out, h⟩⟩, fun h => (ris_iff.1 h.2).2⟩
        rw [← pb_congr e1]
        rfl
      · have h0' : ¬ (0 : Int) < (L : Int) := by omega
        go_wp2_with fail
        go_ret
        exact ⟨ret_no (fun h => by first | exact h.elim | exact h0 h.1), below_drewN (Below.refl _ _) _⟩
end Go.Proofs.YtpnmhldaaaemeaaGreat.Snp
