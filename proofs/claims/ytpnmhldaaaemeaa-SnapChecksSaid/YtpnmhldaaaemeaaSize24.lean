/- Chapter 24: how much a thing has in it. Printed by gen_size24.py. -/
import Derived.Test.YtpnmhldaaaemeaaKinds24
namespace Go.Proofs.Ytpnmhldaaaemeaa.Snp
open Go.RowKit Go.Proofs.Ytpnmhldaaaemeaa.Pin

/-- how many, and how much each has -/
def szBy {α : Type} (f : α → Nat) (l : List α) : Nat := l.length + (l.map f).sum
def szTo {α : Type} (f : α → Nat) (l : List α) (k : Nat) : Nat := l.length + ((l.take k).map f).sum
theorem szto_zero {α : Type} (f : α → Nat) (l : List α) : szTo f l 0 = l.length := by simp [szTo]
theorem szto_succ {α : Type} (f : α → Nat) (l : List α) {k : Nat} (h : k < l.length) : szTo f l (k + 1) = szTo f l k + f l[k] := by
  unfold szTo
  rw [List.take_succ_eq_append_getElem h]
  simp only [List.map_append, List.sum_append, List.map_cons, List.map_nil, List.sum_cons, List.sum_nil]
  omega
theorem szto_all {α : Type} (f : α → Nat) (l : List α) : szTo f l l.length = szBy f l := by simp [szTo, szBy]
/-- a call that tells a size: exactly, unless it is too much -/
abbrev Sized (f : FuncId) (args : Array Value) (w : World) (B s : Nat) : Prop := Calls Try.prog f args w fun e w' => ∃ n : Nat, e = .returned (.int .i64 (n : Int)) ∧ n ≤ B ∧ (n ≤ 1048576 → n = s) ∧ Below w.heap.size w w'
def szPr (p : Pr) : Nat := p.1.size + p.2.size
set_option maxHeartbeats 2000000 in
set_option maxRecDepth 100000 in
theorem sz_texts (l : List ByteArray) (v : Value) (w : World) (hT : TextsAt w w.heap.size v l) (hl : l.length ≤ 140737488351232) (hs : ∀ t ∈ l, t.size ≤ 140737488351232) : Sized 31 #[v] w 281474976710656 (szBy (fun s => s.size) l) := by
  obtain ⟨A, c, rfl, hT⟩ := hT
  unfold Sized
  obtain ⟨L, hL⟩ : ∃ L, L = l.length := ⟨_, rfl⟩
  rw [← hL] at hl ⊢
  have HL := Lib.hid hL
  have HT := Lib.hid hT
  have HS := Lib.hid hs
  clear hL hT hs
  go_enter Try.func31, Try.ntmps31
  go_wp2_with fail
  go_loopw [3, 4] (fun v i wr => ∃ (k n : Nat), k ≤ L ∧ i = .int .i64 k ∧ v = .int .i64 (n : Int) ∧ n ≤ 281474976710656 ∧ Hid (n ≤ 1048576 → n = szTo (fun s => s.size) l k) ∧ Hid (Below w.heap.size w wr)) (fun _ i _ => L - (intOf i).toNat)
  case atStart => exact ⟨0, L, by omega, rfl, rfl, by omega, Lib.hid (fun _ => by rw [szto_zero]; exact HL.out), Lib.hid (Below.refl _ _)⟩
  case round =>
    obtain ⟨k, n, hk, rfl, rfl, hn, HN, HB⟩ := hrel
    by_cases hlt : k < L
    · have hlt' : (k : Int) < (L : Int) := by omega
      by_cases hm : n ≤ 1048576
      · have hm' : (n : Int) ≤ 1048576 := by omega
        have hks : k < l.length := by rw [← HL.out]; exact hlt
        obtain ⟨r, o, rfl, hr, hc⟩ := HT.out (by have := HL.out; omega)
        have hsx := HS.out _ (List.getElem_mem hks)
        obtain ⟨x, hx⟩ : ∃ x, x = l[k] := ⟨_, rfl⟩
        have g := (HB.out.cell (p := ⟨r, _, none⟩) hr).trans (hc k hks)
        rw [← hx] at g hsx
        have HX := Lib.hid hx
        clear hx hc
        go_wp2_with fail
        refine ⟨⟨k + 1, n + x.size, by omega, by go_num, by go_num, by omega, Lib.hid (fun h => ?_), HB⟩, by simp [intOf]; omega⟩
        rw [szto_succ _ _ hks, ← HX.out, ← HN.out hm]
      · have hm' : ¬ (n : Int) ≤ 1048576 := by omega
        go_wp2_with fail
        go_ret
        exact ⟨n, rfl, hn, fun h => absurd h hm, HB.out⟩
    · have hlt' : ¬ ((k : Int) < (L : Int)) := by omega
      obtain rfl : k = L := by omega
      go_wp2_with fail
      go_ret
      refine ⟨n, rfl, hn, fun h => ?_, HB.out⟩
      rw [HN.out h, HL.out, szto_all]
set_option maxHeartbeats 2000000 in
set_option maxRecDepth 100000 in
theorem sz_scoreds (l : List Sc) (v : Value) (w : World) (hT : ScoredsAt w w.heap.size v l) (hl : l.length ≤ 140737488351232) (hs : ∀ t ∈ l, t.1.size ≤ 140737488351232) : Sized 33 #[v] w 281474976710656 (szBy (fun s => s.1.size) l) := by
  obtain ⟨A, c, rfl, hT⟩ := hT
  unfold Sized
  obtain ⟨L, hL⟩ : ∃ L, L = l.length := ⟨_, rfl⟩
  rw [← hL] at hl ⊢
  have HL := Lib.hid hL
  have HT := Lib.hid hT
  have HS := Lib.hid hs
  clear hL hT hs
  go_enter Try.func33, Try.ntmps33
  go_wp2_with fail
  go_loopw [3, 4] (fun v i wr => ∃ (k n : Nat), k ≤ L ∧ i = .int .i64 k ∧ v = .int .i64 (n : Int) ∧ n ≤ 281474976710656 ∧ Hid (n ≤ 1048576 → n = szTo (fun s => s.1.size) l k) ∧ Hid (Below w.heap.size w wr)) (fun _ i _ => L - (intOf i).toNat)
  case atStart => exact ⟨0, L, by omega, rfl, rfl, by omega, Lib.hid (fun _ => by rw [szto_zero]; exact HL.out), Lib.hid (Below.refl _ _)⟩
  case round =>
    obtain ⟨k, n, hk, rfl, rfl, hn, HN, HB⟩ := hrel
    by_cases hlt : k < L
    · have hlt' : (k : Int) < (L : Int) := by omega
      by_cases hm : n ≤ 1048576
      · have hm' : (n : Int) ≤ 1048576 := by omega
        have hks : k < l.length := by rw [← HL.out]; exact hlt
        obtain ⟨r, o, rfl, hr, hc⟩ := HT.out (by have := HL.out; omega)
        have hsx := HS.out _ (List.getElem_mem hks)
        obtain ⟨x, hx⟩ : ∃ x, x = l[k] := ⟨_, rfl⟩
        have g := (HB.out.cell (p := ⟨r, _, none⟩) hr).trans (hc k hks).1
        rw [← hx] at g hsx
        have HX := Lib.hid hx
        clear hx hc
        go_wp2_with fail
        refine ⟨⟨k + 1, n + x.1.size, by omega, by go_num, by go_num, by omega, Lib.hid (fun h => ?_), HB⟩, by simp [intOf]; omega⟩
        rw [szto_succ _ _ hks, ← HX.out, ← HN.out hm]
      · have hm' : ¬ (n : Int) ≤ 1048576 := by omega
        go_wp2_with fail
        go_ret
        exact ⟨n, rfl, hn, fun h => absurd h hm, HB.out⟩
    · have hlt' : ¬ ((k : Int) < (L : Int)) := by omega
      obtain rfl : k = L := by omega
      go_wp2_with fail
      go_ret
      refine ⟨n, rfl, hn, fun h => ?_, HB.out⟩
      rw [HN.out h, HL.out, szto_all]
set_option maxHeartbeats 2000000 in
set_option maxRecDepth 100000 in
theorem sz_pairs (l : List Pr) (v : Value) (w : World) (hT : PairsAt w w.heap.size v l) (hl : l.length ≤ 140737488351232) (hs : ∀ t ∈ l, t.1.size ≤ 140737488351232 ∧ t.2.size ≤ 140737488351232) : Sized 32 #[v] w 562949953421312 (szBy szPr l) := by
  obtain ⟨A, c, rfl, hT⟩ := hT
  unfold Sized
  obtain ⟨L, hL⟩ : ∃ L, L = l.length := ⟨_, rfl⟩
  rw [← hL] at hl ⊢
  have HL := Lib.hid hL
  have HT := Lib.hid hT
  have HS := Lib.hid hs
  clear hL hT hs
  go_enter Try.func32, Try.ntmps32
  go_wp2_with fail
  go_loopw [3, 4] (fun v i wr => ∃ (k n : Nat), k ≤ L ∧ i = .int .i64 k ∧ v = .int .i64 (n : Int) ∧ n ≤ 562949953421312 ∧ Hid (n ≤ 1048576 → n = szTo szPr l k) ∧ Hid (Below w.heap.size w wr)) (fun _ i _ => L - (intOf i).toNat)
  case atStart => exact ⟨0, L, by omega, rfl, rfl, by omega, Lib.hid (fun _ => by rw [szto_zero]; exact HL.out), Lib.hid (Below.refl _ _)⟩
  case round =>
    obtain ⟨k, n, hk, rfl, rfl, hn, HN, HB⟩ := hrel
    by_cases hlt : k < L
    · have hlt' : (k : Int) < (L : Int) := by omega
      by_cases hm : n ≤ 1048576
      · have hm' : (n : Int) ≤ 1048576 := by omega
        have hks : k < l.length := by rw [← HL.out]; exact hlt
        obtain ⟨r, o, rfl, hr, hc⟩ := HT.out (by have := HL.out; omega)
        have hsx := HS.out _ (List.getElem_mem hks)
        obtain ⟨x, hx⟩ : ∃ x, x = l[k] := ⟨_, rfl⟩
        have g := (HB.out.cell (p := ⟨r, _, none⟩) hr).trans (hc k hks).1
        have g2 := (HB.out.cell (p := ⟨r, _, none⟩) hr).trans (hc k hks).2
        rw [← hx] at g g2 hsx
        obtain ⟨hs1, hs2⟩ := hsx
        obtain ⟨m1, hm1⟩ : ∃ m, m = n + x.1.size := ⟨_, rfl⟩
        obtain ⟨m2, hm2⟩ : ∃ m, m = m1 + x.2.size := ⟨_, rfl⟩
        have hw1 : IntKind.i64.wrap ((n : Int) + (x.1.size : Int)) = (m1 : Int) := by rw [IntKind.wrap_i64]; omega
        have hw2 : IntKind.i64.wrap ((m1 : Int) + (x.2.size : Int)) = (m2 : Int) := by rw [IntKind.wrap_i64]; omega
        have HM := Lib.hid (And.intro hm1 hm2)
        have hmb : m2 ≤ 562949953421312 := by omega
        clear hm1 hm2
        have HX := Lib.hid hx
        clear hx hc
        go_wp2_with fail
        refine wp_region_q [0,0,0,0,0,1,0,0,0,0,0,0,1,0,0,0] (by kernel_rfl) (by kernel_rfl) ?_
        (refine q_pure_n rfl (fun K hK => ?_); go_simp; refine hK _ _ ?_; clear hK K)
        (refine q_pure_n rfl (fun K hK => ?_); go_simp; refine hK _ _ ?_; clear hK K)
        (refine q_pure_n rfl (fun K hK => ?_); go_simp; refine hK _ _ ?_; clear hK K)
        (refine q_pure_n rfl (fun K hK => ?_); go_simp; refine hK _ _ ?_; clear hK K)
        (refine q_pure_n rfl (fun K hK => ?_); go_simp; refine hK _ _ ?_; clear hK K)
        (refine q_read_n rfl (fun K hK => ?_); go_simp; refine hK _ _ ?_; clear hK K)
        (refine q_pure_n rfl (fun K hK => ?_); go_simp; refine hK _ _ ?_; clear hK K)
        (refine q_pure_n rfl (fun K hK => ?_); go_simp; refine hK _ _ ?_; clear hK K)
        (refine q_pure_n rfl (fun K hK => ?_); go_simp; refine hK _ _ ?_; clear hK K)
        (refine q_pure_n rfl (fun K hK => ?_); go_simp; refine hK _ _ ?_; clear hK K)
        (refine q_pure_n rfl (fun K hK => ?_); go_simp; refine hK _ _ ?_; clear hK K)
        (refine q_pure_n rfl (fun K hK => ?_); go_simp; refine hK _ _ ?_; clear hK K)
        (refine q_read_n rfl (fun K hK => ?_); go_simp; refine hK _ _ ?_; clear hK K)
        (refine q_pure_n rfl (fun K hK => ?_); go_simp; refine hK _ _ ?_; clear hK K)
        (refine q_pure_n rfl (fun K hK => ?_); go_simp; refine hK _ _ ?_; clear hK K)
        (refine q_pure_n rfl (fun K hK => ?_); go_simp; refine hK _ _ ?_; clear hK K)
        refine q_nil ?_
        intro nq
        go_wp2_with fail
        go_roundw
        case rel =>
          refine ⟨k + 1, m2, by omega, by go_num, rfl, hmb, Lib.hid (fun h => ?_), Lib.hid (below_drewN HB.out _)⟩
          rw [szto_succ _ _ hks, ← HX.out, ← HN.out hm]
          have := HM.out
          unfold szPr
          omega
        case measure => simp [intOf]; omega
      · have hm' : ¬ (n : Int) ≤ 1048576 := by omega
        go_wp2_with fail
        go_ret
        exact ⟨n, rfl, hn, fun h => absurd h hm, HB.out⟩
    · have hlt' : ¬ ((k : Int) < (L : Int)) := by omega
      obtain rfl : k = L := by omega
      go_wp2_with fail
      go_ret
      refine ⟨n, rfl, hn, fun h => ?_, HB.out⟩
      rw [HN.out h, HL.out, szto_all]
end Go.Proofs.Ytpnmhldaaaemeaa.Snp
