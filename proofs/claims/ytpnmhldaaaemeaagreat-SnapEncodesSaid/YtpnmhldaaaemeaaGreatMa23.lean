import Derived.Test.YtpnmhldaaaemeaaGreatMa17
import Derived.Test.YtpnmhldaaaemeaaGreatMa22
import Derived.Test.YtpnmhldaaaemeaaGreatMa6
import Derived.Test.YtpnmhldaaaemeaaGreatMa7
import Derived.Test.YtpnmhldaaaemeaaGreatProg
import Derived.WalkKit
import Derived.KernelRfl
import Derived.Lib.Hide
import Derived.Test.YtpnmhldaaaemeaaGreatMa12
import Derived.Test.YtpnmhldaaaemeaaGreatMa16
import Derived.Deep.Slices
import Derived.Deep.Fields
import Derived.ChangeSame
import Derived.SizedLaws
import Derived.OpenShut
import Derived.Lib.SmallJoins
/- Chapter 24: the document's Encode. -/
namespace Go.Proofs.YtpnmhldaaaemeaaGreat.Snp
open Go.RowKit Go.Proofs.YtpnmhldaaaemeaaGreat.Pin
set_option maxHeartbeats 1000000 in
set_option maxRecDepth 100000 in
theorem ref_enc_yes (l : List It) (v : Value) (w : World) (hT : ItemsAt w w.heap.size v l) (hl : l.length ≤ 140737488351232) (hB : ∀ it ∈ l, VaB it.val) (hI : ∀ it ∈ l, IdsB it.val) (hsz : (encB l).length ≤ 140737488355328) (hck : CheckP l) :
    Calls Tryz.prog 8 #[v] w fun e w' => e = .returned (.tuple #[.string ⟨(encB l).toArray⟩, .int .i64 0]) ∧ Below w.heap.size w w' := by
  have HCK := Lib.hid (ref_check l v w hT hl hB)
  rw [eno_yes hck] at HCK
  have HBY : Hid (∀ W, Below w.heap.size w W → w.heap.size ≤ W.heap.size → Calls Tryz.prog 18 #[v] W fun e w' => e = .returned (.string ⟨(encB l).toArray⟩) ∧ Below W.heap.size W w') := Lib.hid (fun W hW hs =>
    ref_bytes l v W ((hT.below hW).more hs) hl hB hI (fun it hit => by obtain ⟨j, hj, rfl⟩ := List.getElem_of_mem hit; exact (hck j hj hj).1) hsz)
  clear hT hl hB hI hsz hck
  go_enter Tryz.func8, Tryz.ntmps8
  go_wp2_with fail
  refine HCK.out.mono ?_
  rintro e w1 ⟨rfl, hb1⟩
  have HB1 := Lib.hid hb1
  clear hb1
  go_wp2_with fail
  refine (HBY.out _ HB1.out HB1.out.size).mono ?_
  rintro e w2 ⟨rfl, hb2⟩
  have HB2 := Lib.hid (HB1.out.trans (hb2.mono HB1.out.size))
  clear hb2
  go_wp2_with fail
  go_ret2
  exact ⟨rfl, HB2.out⟩
set_option maxHeartbeats 1000000 in
set_option maxRecDepth 100000 in
theorem ref_enc_no (l : List It) (v : Value) (w : World) (hT : ItemsAt w w.heap.size v l) (hl : l.length ≤ 140737488351232) (hB : ∀ it ∈ l, VaB it.val) (hck : ¬ CheckP l) :
    Calls Tryz.prog 8 #[v] w fun e w' => e = .returned (.tuple #[.string ⟨#[]⟩, .int .i64 1]) ∧ Below w.heap.size w w' := by
  have HCK := Lib.hid (ref_check l v w hT hl hB)
  rw [eno_no hck] at HCK
  clear hT hl hB hck
  go_enter Tryz.func8, Tryz.ntmps8
  go_wp2_with fail
  refine HCK.out.mono ?_
  rintro e w1 ⟨rfl, hb1⟩
  have HB1 := Lib.hid hb1
  clear hb1
  go_wp2_with fail
  go_ret2
  exact ⟨rfl, HB1.out⟩
end Go.Proofs.YtpnmhldaaaemeaaGreat.Snp
/- Chapter 24: how much a thing has in it. Printed by gen_size24.py. -/
namespace Go.Proofs.YtpnmhldaaaemeaaGreat.Snp
open Go.RowKit Go.Proofs.YtpnmhldaaaemeaaGreat.Pin

/-- how many, and how much each has -/
def szBy {α : Type} (f : α → Nat) (l : List α) : Nat := l.length + (l.map f).sum
def szTo {α : Type} (f : α → Nat) (l : List α) (k : Nat) : Nat := l.length + ((l.take k).map f).sum
theorem szto_zero {α : Type} (f : α → Nat) (l : List α) : szTo f l 0 = l.length := by simp [szTo]
theorem szto_succ {α : Type} (f : α → Nat) (l : List α) {k : Nat} (h : k < l.length) : szTo f l (k + 1) = szTo f l k + f l[k] := by
  unfold szTo
  rw [List.take_succ_eq_append_getElem h]
  simp only [List.map_append, List.sum_append, List.map_cons, List.map_nil, List.sum_cons, List.sum_nil]
  omega
theorem szto_all {α : Type} (f : α → Nat) (l : List α) : szTo f l l.length = szBy f l := by simp [szTo, szBy]
/-- a call that tells a size: exactly, unless it is too much -/
abbrev Sized (f : FuncId) (args : Array Value) (w : World) (B s : Nat) : Prop := Calls Tryz.prog f args w fun e w' => ∃ n : Nat, e = .returned (.int .i64 (n : Int)) ∧ n ≤ B ∧ (n ≤ 1048576 → n = s) ∧ Below w.heap.size w w'
def szPr (p : Pr) : Nat := p.1.size + p.2.size
set_option maxHeartbeats 2000000 in
set_option maxRecDepth 100000 in
theorem sz_texts (l : List ByteArray) (v : Value) (w : World) (hT : TextsAt w w.heap.size v l) (hl : l.length ≤ 140737488351232) (hs : ∀ t ∈ l, t.size ≤ 140737488351232) : Sized 24 #[v] w 281474976710656 (szBy (fun s => s.size) l) := by
  obtain ⟨A, c, rfl, hT⟩ := hT
  unfold Sized
  obtain ⟨L, hL⟩ : ∃ L, L = l.length := ⟨_, rfl⟩
  rw [← hL] at hl ⊢
  have HL := Lib.hid hL
  have HT := Lib.hid hT
  have HS := Lib.hid hs
  clear hL hT hs
  go_enter Tryz.func24, Tryz.ntmps24
  go_wp2_with fail
  go_loopw [3, 4] (fun v i wr => ∃ (k n : Nat), k ≤ L ∧ i = .int .i64 k ∧ v = .int .i64 (n : Int) ∧ n ≤ 281474976710656 ∧ Hid (n ≤ 1048576 → n = szTo (fun s => s.size) l k) ∧ Hid (Below w.heap.size w wr)) (fun _ i _ => L - (intOf i).toNat)
  case atStart => exact ⟨0, L, by omega, rfl, rfl, by omega, Lib.hid (fun _ => by rw [szto_zero]; exact HL.out), Lib.hid (Below.refl _ _)⟩
  case round =>
    obtain ⟨k, n, hk, rfl, rfl, hn, HN, HB⟩ := hrel
    by_cases hlt : k < L
    · have hlt' : (k : Int) < (L : Int) := by omega
      by_cases hm : n ≤ 1048576
      · have hm' : (n : Int) ≤ 1048576 := by omega
        have hks : k < l.length := by rw [← HL.out]; exact hlt
        obtain ⟨r, o, rfl, hr, hc⟩ := HT.out (by have := HL.out; omega)
        have hsx := HS.out _ (List.getElem_mem hks)
        obtain ⟨x, hx⟩ : ∃ x, x = l[k] := ⟨_, rfl⟩
        have g := (HB.out.cell (p := ⟨r, _, none⟩) hr).trans (hc k hks)
        rw [← hx] at g hsx
        have HX := Lib.hid hx
        clear hx hc
        go_wp2_with fail
        refine ⟨⟨k + 1, n + x.size, by omega, by go_num, by go_num, by omega, Lib.hid (fun h => ?_), HB⟩, by simp [intOf]; omega⟩
        rw [szto_succ _ _ hks, ← HX.out, ← HN.out hm]
      · have hm' : ¬ (n : Int) ≤ 1048576 := by omega
        go_wp2_with fail
        go_ret
        exact ⟨n, rfl, hn, fun h => absurd h hm, HB.out⟩
    · have hlt' : ¬ ((k : Int) < (L : Int)) := by omega
      obtain rfl : k = L := by omega
      go_wp2_with fail
      go_ret
      refine ⟨n, rfl, hn, fun h => ?_, HB.out⟩
      rw [HN.out h, HL.out, szto_all]
set_option maxHeartbeats 2000000 in
set_option maxRecDepth 100000 in
theorem sz_scoreds (l : List Sc) (v : Value) (w : World) (hT : ScoredsAt w w.heap.size v l) (hl : l.length ≤ 140737488351232) (hs : ∀ t ∈ l, t.1.size ≤ 140737488351232) : Sized 26 #[v] w 281474976710656 (szBy (fun s => s.1.size) l) := by
  obtain ⟨A, c, rfl, hT⟩ := hT
  unfold Sized
  obtain ⟨L, hL⟩ : ∃ L, L = l.length := ⟨_, rfl⟩
  rw [← hL] at hl ⊢
  have HL := Lib.hid hL
  have HT := Lib.hid hT
  have HS := Lib.hid hs
  clear hL hT hs
  go_enter Tryz.func26, Tryz.ntmps26
  go_wp2_with fail
  go_loopw [3, 4] (fun v i wr => ∃ (k n : Nat), k ≤ L ∧ i = .int .i64 k ∧ v = .int .i64 (n : Int) ∧ n ≤ 281474976710656 ∧ Hid (n ≤ 1048576 → n = szTo (fun s => s.1.size) l k) ∧ Hid (Below w.heap.size w wr)) (fun _ i _ => L - (intOf i).toNat)
  case atStart => exact ⟨0, L, by omega, rfl, rfl, by omega, Lib.hid (fun _ => by rw [szto_zero]; exact HL.out), Lib.hid (Below.refl _ _)⟩
  case round =>
    obtain ⟨k, n, hk, rfl, rfl, hn, HN, HB⟩ := hrel
    by_cases hlt : k < L
    · have hlt' : (k : Int) < (L : Int) := by omega
      by_cases hm : n ≤ 1048576
      · have hm' : (n : Int) ≤ 1048576 := by omega
        have hks : k < l.length := by rw [← HL.out]; exact hlt
        obtain ⟨r, o, rfl, hr, hc⟩ := HT.out (by have := HL.out; omega)
        have hsx := HS.out _ (List.getElem_mem hks)
        obtain ⟨x, hx⟩ : ∃ x, x = l[k] := ⟨_, rfl⟩
        have g := (HB.out.cell (p := ⟨r, _, none⟩) hr).trans (hc k hks).1
        rw [← hx] at g hsx
        have HX := Lib.hid hx
        clear hx hc
        go_wp2_with fail
        refine ⟨⟨k + 1, n + x.1.size, by omega, by go_num, by go_num, by omega, Lib.hid (fun h => ?_), HB⟩, by simp [intOf]; omega⟩
        rw [szto_succ _ _ hks, ← HX.out, ← HN.out hm]
      · have hm' : ¬ (n : Int) ≤ 1048576 := by omega
        go_wp2_with fail
        go_ret
        exact ⟨n, rfl, hn, fun h => absurd h hm, HB.out⟩
    · have hlt' : ¬ ((k : Int) < (L : Int)) := by omega
      obtain rfl : k = L := by omega
      go_wp2_with fail
      go_ret
      refine ⟨n, rfl, hn, fun h => ?_, HB.out⟩
      rw [HN.out h, HL.out, szto_all]
set_option maxHeartbeats 2000000 in
set_option maxRecDepth 100000 in
theorem sz_pairs (l : List Pr) (v : Value) (w : World) (hT : PairsAt w w.heap.size v l) (hl : l.length ≤ 140737488351232) (hs : ∀ t ∈ l, t.1.size ≤ 140737488351232 ∧ t.2.size ≤ 140737488351232) : Sized 25 #[v] w 562949953421312 (szBy szPr l) := by
  obtain ⟨A, c, rfl, hT⟩ := hT
  unfold Sized
  obtain ⟨L, hL⟩ : ∃ L, L = l.length := ⟨_, rfl⟩
  rw [← hL] at hl ⊢
  have HL := Lib.hid hL
  have HT := Lib.hid hT
  have HS := Lib.hid hs
  clear hL hT hs
  go_enter Tryz.func25, Tryz.ntmps25
  go_wp2_with fail
  go_loopw [3, 4] (fun v i wr => ∃ (k n : Nat), k ≤ L ∧ i = .int .i64 k ∧ v = .int .i64 (n : Int) ∧ n ≤ 562949953421312 ∧ Hid (n ≤ 1048576 → n = szTo szPr l k) ∧ Hid (Below w.heap.size w wr)) (fun _ i _ => L - (intOf i).toNat)
  case atStart => exact ⟨0, L, by omega, rfl, rfl, by omega, Lib.hid (fun _ => by rw [szto_zero]; exact HL.out), Lib.hid (Below.refl _ _)⟩
  case round =>
    obtain ⟨k, n, hk, rfl, rfl, hn, HN, HB⟩ := hrel
    by_cases hlt : k < L
    · have hlt' : (k : Int) < (L : Int) := by omega
      by_cases hm : n ≤ 1048576
      · have hm' : (n : Int) ≤ 1048576 := by omega
        have hks : k < l.length := by rw [← HL.out]; exact hlt
        obtain ⟨r, o, rfl, hr, hc⟩ := HT.out (by have := HL.out; omega)
        have hsx := HS.out _ (List.getElem_mem hks)
        obtain ⟨x, hx⟩ : ∃ x, x = l[k] := ⟨_, rfl⟩
        have g := (HB.out.cell (p := ⟨r, _, none⟩) hr).trans (hc k hks).1
        have g2 := (HB.out.cell (p := ⟨r, _, none⟩) hr).trans (hc k hks).2
        rw [← hx] at g g2 hsx
        obtain ⟨hs1, hs2⟩ := hsx
        obtain ⟨m1, hm1⟩ : ∃ m, m = n + x.1.size := ⟨_, rfl⟩
        obtain ⟨m2, hm2⟩ : ∃ m, m = m1 + x.2.size := ⟨_, rfl⟩
        have hw1 : IntKind.i64.wrap ((n : Int) + (x.1.size : Int)) = (m1 : Int) := by rw [IntKind.wrap_i64]; omega
        have hw2 : IntKind.i64.wrap ((m1 : Int) + (x.2.size : Int)) = (m2 : Int) := by rw [IntKind.wrap_i64]; omega
        have HM := Lib.hid (And.intro hm1 hm2)
        have hmb : m2 ≤ 562949953421312 := by omega
        clear hm1 hm2
        have HX := Lib.hid hx
        clear hx hc
        go_wp2_with fail
        refine wp_region_q [0,0,0,0,0,1,0,0,0,0,0,0,1,0,0,0] (by kernel_rfl) (by kernel_rfl) ?_
        (refine q_pure_n rfl (fun K hK => ?_); go_simp; refine hK _ _ ?_; clear hK K)
        (refine q_pure_n rfl (fun K hK => ?_); go_simp; refine hK _ _ ?_; clear hK K)
        (refine q_pure_n rfl (fun K hK => ?_); go_simp; refine hK _ _ ?_; clear hK K)
        (refine q_pure_n rfl (fun K hK => ?_); go_simp; refine hK _ _ ?_; clear hK K)
        (refine q_pure_n rfl (fun K hK => ?_); go_simp; refine hK _ _ ?_; clear hK K)
        (refine q_read_n rfl (fun K hK => ?_); go_simp; refine hK _ _ ?_; clear hK K)
        (refine q_pure_n rfl (fun K hK => ?_); go_simp; refine hK _ _ ?_; clear hK K)
        (refine q_pure_n rfl (fun K hK => ?_); go_simp; refine hK _ _ ?_; clear hK K)
        (refine q_pure_n rfl (fun K hK => ?_); go_simp; refine hK _ _ ?_; clear hK K)
        (refine q_pure_n rfl (fun K hK => ?_); go_simp; refine hK _ _ ?_; clear hK K)
        (refine q_pure_n rfl (fun K hK => ?_); go_simp; refine hK _ _ ?_; clear hK K)
        (refine q_pure_n rfl (fun K hK => ?_); go_simp; refine hK _ _ ?_; clear hK K)
        (refine q_read_n rfl (fun K hK => ?_); go_simp; refine hK _ _ ?_; clear hK K)
        (refine q_pure_n rfl (fun K hK => ?_); go_simp; refine hK _ _ ?_; clear hK K)
        (refine q_pure_n rfl (fun K hK => ?_); go_simp; refine hK _ _ ?_; clear hK K)
        (refine q_pure_n rfl (fun K hK => ?_); go_simp; refine hK _ _ ?_; clear hK K)
        refine q_nil ?_
        intro nq
        go_wp2_with fail
        go_roundw
        case rel =>
          refine ⟨k + 1, m2, by omega, by go_num, rfl, hmb, Lib.hid (fun h => ?_), Lib.hid (below_drewN HB.out _)⟩
          rw [szto_succ _ _ hks, ← HX.out, ← HN.out hm]
          have := HM.out
          unfold szPr
          omega
        case measure => simp [intOf]; omega
      · have hm' : ¬ (n : Int) ≤ 1048576 := by omega
        go_wp2_with fail
        go_ret
        exact ⟨n, rfl, hn, fun h => absurd h hm, HB.out⟩
    · have hlt' : ¬ ((k : Int) < (L : Int)) := by omega
      obtain rfl : k = L := by omega
      go_wp2_with fail
      go_ret
      refine ⟨n, rfl, hn, fun h => ?_, HB.out⟩
      rw [HN.out h, HL.out, szto_all]
end Go.Proofs.YtpnmhldaaaemeaaGreat.Snp
/- Chapter 24: how much a value has in it. Printed by gen_sizev24.py. -/
namespace Go.Proofs.YtpnmhldaaaemeaaGreat.Snp
open Go.RowKit Go.Proofs.YtpnmhldaaaemeaaGreat.Pin

def szEn (e : En) : Nat := szBy szPr e.pairs
/-- each text, each list within bounds -/
structure VaT (v : Va) : Prop where
  text : v.text.size ≤ 140737488351232
  list : ∀ t ∈ v.list, t.size ≤ 140737488351232
  hash : ∀ t ∈ v.hash, t.1.size ≤ 140737488351232 ∧ t.2.size ≤ 140737488351232
  set : ∀ t ∈ v.set, t.size ≤ 140737488351232
  zset : ∀ t ∈ v.zset, t.1.size ≤ 140737488351232
  stream : ∀ e ∈ v.stream, ∀ t ∈ e.pairs, t.1.size ≤ 140737488351232 ∧ t.2.size ≤ 140737488351232
set_option maxHeartbeats 2000000 in
set_option maxRecDepth 100000 in
theorem sz_entries (l : List En) (v : Value) (w : World) (hT : EntriesAt w w.heap.size v l) (hl : l.length ≤ 140737488351232) (hpl : ∀ e ∈ l, e.pairs.length ≤ 140737488351232) (hs : ∀ e ∈ l, ∀ t ∈ e.pairs, t.1.size ≤ 140737488351232 ∧ t.2.size ≤ 140737488351232) : Sized 27 #[v] w 1125899906842624 (szBy szEn l) := by
  obtain ⟨A, c, rfl, hT⟩ := hT
  unfold Sized
  obtain ⟨L, hL⟩ : ∃ L, L = l.length := ⟨_, rfl⟩
  rw [← hL] at hl ⊢
  have HL := Lib.hid hL
  have HT := Lib.hid hT
  have HS := Lib.hid hs
  have HPL := Lib.hid hpl
  clear hL hT hs hpl
  go_enter Tryz.func27, Tryz.ntmps27
  go_wp2_with fail
  go_loopw [3, 4] (fun v i wr => ∃ (k n : Nat), k ≤ L ∧ i = .int .i64 k ∧ v = .int .i64 (n : Int) ∧ n ≤ 1125899906842624 ∧ Hid (n ≤ 1048576 → n = szTo szEn l k) ∧ Hid (Below w.heap.size w wr)) (fun _ i _ => L - (intOf i).toNat)
  case atStart => exact ⟨0, L, by omega, rfl, rfl, by omega, Lib.hid (fun _ => by rw [szto_zero]; exact HL.out), Lib.hid (Below.refl _ _)⟩
  case round =>
    obtain ⟨k, n, hk, rfl, rfl, hn, HN, HB⟩ := hrel
    by_cases hlt : k < L
    · have hlt' : (k : Int) < (L : Int) := by omega
      by_cases hm : n ≤ 1048576
      · have hm' : (n : Int) ≤ 1048576 := by omega
        have hks : k < l.length := by rw [← HL.out]; exact hlt
        obtain ⟨r, o, rfl, hr, hc⟩ := HT.out (by have := HL.out; omega)
        have hsx := HS.out _ (List.getElem_mem hks)
        have hpx := HPL.out _ (List.getElem_mem hks)
        obtain ⟨-, -, pv, hcd, hpv⟩ := hc k hks
        have g := (HB.out.cell (p := ⟨r, _, none⟩) hr).trans hcd
        obtain ⟨x, hx⟩ : ∃ x, x = l[k] := ⟨_, rfl⟩
        rw [← hx] at hsx hpx hpv
        have HP : Hid (Sized 25 #[pv] wr 562949953421312 (szEn x)) := Lib.hid (sz_pairs x.pairs pv wr ((hpv.below HB.out).more HB.out.size) hpx hsx)
        have HX := Lib.hid hx
        clear hx hc hcd hpv hsx hpx
        go_wp2_with fail
        refine HP.out.mono ?_
        rintro e w2 ⟨a, rfl, ha, ha2, hb2⟩
        have HA := Lib.hid ha2
        have HB2 : Hid (Below w.heap.size w w2) := Lib.hid (HB.out.trans (hb2.mono HB.out.size))
        clear ha2 hb2
        go_wp2_with fail
        refine ⟨⟨k + 1, n + a, by omega, by go_num, by go_num, by omega, Lib.hid (fun h => ?_), HB2⟩, by simp [intOf]; omega⟩
        rw [szto_succ _ _ hks, ← HX.out, ← HN.out hm, ← HA.out (by omega)]
      · have hm' : ¬ (n : Int) ≤ 1048576 := by omega
        go_wp2_with fail
        go_ret
        exact ⟨n, rfl, hn, fun h => absurd h hm, HB.out⟩
    · have hlt' : ¬ ((k : Int) < (L : Int)) := by omega
      obtain rfl : k = L := by omega
      go_wp2_with fail
      go_ret
      refine ⟨n, rfl, hn, fun h => ?_, HB.out⟩
      rw [HN.out h, HL.out, szto_all]
def szVa (v : Va) : Nat := 1 + v.text.size + szBy (fun s => s.size) v.list + szBy szPr v.hash + szBy (fun s => s.size) v.set + szBy (fun s => s.1.size) v.zset + szBy szEn v.stream
set_option maxHeartbeats 4000000 in
set_option maxRecDepth 100000 in
theorem sz_value (v : Va) (c : Cl) (w : World) (hv : ValAt w w.heap.size c v) (hB : VaB v) (hT : VaT v) : Sized 12 #[vV v c] w 2251799813685248 (szVa v) := by
  have HV := Lib.hid hv
  unfold Sized
  have C0 : Hid (∀ W, Below w.heap.size w W → Sized 24 #[c.lv] W 281474976710656 (szBy (fun s => s.size) v.list)) := Lib.hid (fun W hW => sz_texts v.list _ W ((HV.out.list.below hW).more hW.size) hB.list hT.list)
  have C1 : Hid (∀ W, Below w.heap.size w W → Sized 25 #[c.hv] W 562949953421312 (szBy szPr v.hash)) := Lib.hid (fun W hW => sz_pairs v.hash _ W ((HV.out.hash.below hW).more hW.size) hB.hash hT.hash)
  have C2 : Hid (∀ W, Below w.heap.size w W → Sized 24 #[c.sv] W 281474976710656 (szBy (fun s => s.size) v.set)) := Lib.hid (fun W hW => sz_texts v.set _ W ((HV.out.set.below hW).more hW.size) hB.set hT.set)
  have C3 : Hid (∀ W, Below w.heap.size w W → Sized 26 #[c.zv] W 281474976710656 (szBy (fun s => s.1.size) v.zset)) := Lib.hid (fun W hW => sz_scoreds v.zset _ W ((HV.out.zset.below hW).more hW.size) hB.zset hT.zset)
  have C4 : Hid (∀ W, Below w.heap.size w W → Sized 27 #[c.ev] W 1125899906842624 (szBy szEn v.stream)) := Lib.hid (fun W hW => sz_entries v.stream _ W ((HV.out.stream.below hW).more hW.size) hB.stream hB.pairs hT.stream)
  have htx := hT.text
  clear hv hB hT
  obtain ⟨m0, hm0⟩ : ∃ m, m = 1 + v.text.size := ⟨_, rfl⟩
  have hw0 : IntKind.i64.wrap (1 + (v.text.size : Int)) = (m0 : Int) := by rw [IntKind.wrap_i64]; omega
  have M0 := Lib.hid hm0
  have hm0b : m0 ≤ 140737488351233 := by omega
  clear hm0 htx
  go_enter Tryz.func12, Tryz.ntmps12
  go_wp2_with fail
  have hbo := heap_alloc_new w (.cells #[.int .u8 (v.kind : Int), .string v.text, c.lv, c.hv, c.sv, c.zv, c.ev, .int .u64 (v.ms : Int), .int .u64 (v.seq : Int)] 42)
  have HS : Hid ((w.alloc (.cells #[.int .u8 (v.kind : Int), .string v.text, c.lv, c.hv, c.sv, c.zv, c.ev, .int .u64 (v.ms : Int), .int .u64 (v.seq : Int)] 42)).cell? ⟨w.heap.size, 1, none⟩ = some (.string v.text) ∧ (w.alloc (.cells #[.int .u8 (v.kind : Int), .string v.text, c.lv, c.hv, c.sv, c.zv, c.ev, .int .u64 (v.ms : Int), .int .u64 (v.seq : Int)] 42)).cell? ⟨w.heap.size, 2, none⟩ = some c.lv) := Lib.hid ⟨by rw [Lib.cell_of_heap hbo]; rfl, by rw [Lib.cell_of_heap hbo]; rfl⟩
  clear hbo
  refine wp_region_pinS (fun w' => w'.cell? ⟨w.heap.size, 1, none⟩ = some (.string v.text) ∧ w'.cell? ⟨w.heap.size, 2, none⟩ = some c.lv) [0,0,0,0,0,0,2,0,0] (by kernel_rfl) (by kernel_rfl) (fun _ _ h => h) (HS.out) ?_
  (refine pin_pure (fun K hK => ?_); go_simp; refine hK _ _ ?_; clear hK K)
  (refine pin_fixed (fun K hK => ?_); go_simp; refine ⟨.string v.text, fun w => ?_, hK _ _ ?_⟩; (intros; go_simp); clear hK K)
  (refine pin_pure (fun K hK => ?_); go_simp; refine hK _ _ ?_; clear hK K)
  (refine pin_pure (fun K hK => ?_); go_simp; refine hK _ _ ?_; clear hK K)
  (refine pin_pure (fun K hK => ?_); go_simp; refine hK _ _ ?_; clear hK K)
  (refine pin_fixed (fun K hK => ?_); go_simp; refine ⟨c.lv, fun w => ?_, hK _ _ ?_⟩; (intros; go_simp); clear hK K)
  (refine pin_writeS (fun K hK => ?_); go_simp; intro nw; refine (C0.out _ (below_drewN ((Below.refl _ w).alloc (Nat.le_refl _) _) _)).mono ?_; rintro e w2 ⟨a0, rfl, ha0, hs0, hb3⟩; obtain ⟨hbb, hbo⟩ := box_below hb3; clear hb3; obtain ⟨w2, rfl⟩ : ∃ w5, w2 = World.drewN w5 0 := ⟨w2, rfl⟩; have HB2 : Hid (Below w.heap.size w w2) := Lib.hid hbb; have HBO2 : Hid (w2.heap[w.heap.size]? = some (.cells #[.int .u8 (v.kind : Int), .string v.text, c.lv, c.hv, c.sv, c.zv, c.ev, .int .u64 (v.ms : Int), .int .u64 (v.seq : Int)] 42 (0, 0))) := Lib.hid hbo; have HS0 := Lib.hid hs0; obtain ⟨m1, hm1⟩ : ∃ m, m = m0 + a0 := ⟨_, rfl⟩; have hw1 : IntKind.i64.wrap ((m0 : Int) + (a0 : Int)) = (m1 : Int) := (by rw [IntKind.wrap_i64]; omega); have M1 := Lib.hid hm1; have hm1b : m1 ≤ 422212465061889 := (by omega); clear hbb hbo hs0 hm1; refine ⟨_, rfl, _, ⟨_, rfl⟩, hK _ _ ?_ ?_⟩; (exact ⟨by rw [Lib.cell_of_heap HBO2.out]; rfl, by rw [Lib.cell_of_heap HBO2.out]; rfl⟩); clear hK K)
  (refine pin_pure (fun K hK => ?_); go_simp; refine hK _ _ ?_; clear hK K)
  (refine pin_pure (fun K hK => ?_); go_simp; refine hK _ _ ?_; clear hK K)
  refine pin_nil ?_
  intro nq
  have g1 : (w2.drewN nq).cell? ⟨w.heap.size, 3, none⟩ = some c.hv := by rw [Lib.cell_of_heap (show (w2.drewN nq).heap[w.heap.size]? = some (.cells #[.int .u8 (v.kind : Int), .string v.text, c.lv, c.hv, c.sv, c.zv, c.ev, .int .u64 (v.ms : Int), .int .u64 (v.seq : Int)] 42 (0, 0)) from HBO2.out)]; rfl
  by_cases hb1 : ¬ m1 ≤ 1048576
  · have hi1 : ¬ (m1 : Int) ≤ 1048576 := by omega
    go_wp2_with fail
    go_ret
    exact ⟨m1, rfl, by omega, fun h => absurd h hb1, (below_drewN HB2.out nq)⟩
  have hb1 := Classical.not_not.1 hb1
  have hi1 : (m1 : Int) ≤ 1048576 := by omega
  go_wp2_with fail
  refine (C1.out _ (below_drewN HB2.out nq)).mono ?_
  rintro e v1 ⟨a1, rfl, ha1, hs1, hx1⟩
  have HS1 := Lib.hid hs1
  have HB1' : Hid (Below w.heap.size w v1) := Lib.hid ((below_drewN HB2.out nq).trans (hx1.mono (below_drewN HB2.out nq).size))
  have HO1' : Hid (v1.heap[w.heap.size]? = some (.cells #[.int .u8 (v.kind : Int), .string v.text, c.lv, c.hv, c.sv, c.zv, c.ev, .int .u64 (v.ms : Int), .int .u64 (v.seq : Int)] 42 (0, 0))) := Lib.hid ((hx1.block _ (Array.getElem?_eq_some_iff.1 (show (w2.drewN nq).heap[w.heap.size]? = some (.cells #[.int .u8 (v.kind : Int), .string v.text, c.lv, c.hv, c.sv, c.zv, c.ev, .int .u64 (v.ms : Int), .int .u64 (v.seq : Int)] 42 (0, 0)) from HBO2.out)).1).trans HBO2.out)
  clear hs1 hx1 g1
  have g2 : v1.cell? ⟨w.heap.size, 4, none⟩ = some c.sv := by rw [Lib.cell_of_heap (show v1.heap[w.heap.size]? = some (.cells #[.int .u8 (v.kind : Int), .string v.text, c.lv, c.hv, c.sv, c.zv, c.ev, .int .u64 (v.ms : Int), .int .u64 (v.seq : Int)] 42 (0, 0)) from HO1'.out)]; rfl
  by_cases hb2 : ¬ m1 + a1 ≤ 1048576
  · have hi2 : ¬ (m1 : Int) + (a1 : Int) ≤ 1048576 := by omega
    go_wp2_with fail
    go_ret
    exact ⟨m1 + a1, rfl, by omega, fun h => absurd h hb2, HB1'.out⟩
  have hb2 := Classical.not_not.1 hb2
  have hi2 : (m1 : Int) + (a1 : Int) ≤ 1048576 := by omega
  go_wp2_with fail
  refine (C2.out _ HB1'.out).mono ?_
  rintro e v2 ⟨a2, rfl, ha2, hs2, hx2⟩
  have HS2 := Lib.hid hs2
  have HB2' : Hid (Below w.heap.size w v2) := Lib.hid (HB1'.out.trans (hx2.mono HB1'.out.size))
  have HO2' : Hid (v2.heap[w.heap.size]? = some (.cells #[.int .u8 (v.kind : Int), .string v.text, c.lv, c.hv, c.sv, c.zv, c.ev, .int .u64 (v.ms : Int), .int .u64 (v.seq : Int)] 42 (0, 0))) := Lib.hid ((hx2.block _ (Array.getElem?_eq_some_iff.1 (show v1.heap[w.heap.size]? = some (.cells #[.int .u8 (v.kind : Int), .string v.text, c.lv, c.hv, c.sv, c.zv, c.ev, .int .u64 (v.ms : Int), .int .u64 (v.seq : Int)] 42 (0, 0)) from HO1'.out)).1).trans HO1'.out)
  clear hs2 hx2 g2
  have g3 : v2.cell? ⟨w.heap.size, 5, none⟩ = some c.zv := by rw [Lib.cell_of_heap (show v2.heap[w.heap.size]? = some (.cells #[.int .u8 (v.kind : Int), .string v.text, c.lv, c.hv, c.sv, c.zv, c.ev, .int .u64 (v.ms : Int), .int .u64 (v.seq : Int)] 42 (0, 0)) from HO2'.out)]; rfl
  by_cases hb3 : ¬ m1 + a1 + a2 ≤ 1048576
  · have hi3 : ¬ (m1 : Int) + (a1 : Int) + (a2 : Int) ≤ 1048576 := by omega
    go_wp2_with fail
    go_ret
    exact ⟨m1 + a1 + a2, rfl, by omega, fun h => absurd h hb3, HB2'.out⟩
  have hb3 := Classical.not_not.1 hb3
  have hi3 : (m1 : Int) + (a1 : Int) + (a2 : Int) ≤ 1048576 := by omega
  go_wp2_with fail
  refine (C3.out _ HB2'.out).mono ?_
  rintro e v3 ⟨a3, rfl, ha3, hs3, hx3⟩
  have HS3 := Lib.hid hs3
  have HB3' : Hid (Below w.heap.size w v3) := Lib.hid (HB2'.out.trans (hx3.mono HB2'.out.size))
  have HO3' : Hid (v3.heap[w.heap.size]? = some (.cells #[.int .u8 (v.kind : Int), .string v.text, c.lv, c.hv, c.sv, c.zv, c.ev, .int .u64 (v.ms : Int), .int .u64 (v.seq : Int)] 42 (0, 0))) := Lib.hid ((hx3.block _ (Array.getElem?_eq_some_iff.1 (show v2.heap[w.heap.size]? = some (.cells #[.int .u8 (v.kind : Int), .string v.text, c.lv, c.hv, c.sv, c.zv, c.ev, .int .u64 (v.ms : Int), .int .u64 (v.seq : Int)] 42 (0, 0)) from HO2'.out)).1).trans HO2'.out)
  clear hs3 hx3 g3
  have g4 : v3.cell? ⟨w.heap.size, 6, none⟩ = some c.ev := by rw [Lib.cell_of_heap (show v3.heap[w.heap.size]? = some (.cells #[.int .u8 (v.kind : Int), .string v.text, c.lv, c.hv, c.sv, c.zv, c.ev, .int .u64 (v.ms : Int), .int .u64 (v.seq : Int)] 42 (0, 0)) from HO3'.out)]; rfl
  by_cases hb4 : ¬ m1 + a1 + a2 + a3 ≤ 1048576
  · have hi4 : ¬ (m1 : Int) + (a1 : Int) + (a2 : Int) + (a3 : Int) ≤ 1048576 := by omega
    go_wp2_with fail
    go_ret
    exact ⟨m1 + a1 + a2 + a3, rfl, by omega, fun h => absurd h hb4, HB3'.out⟩
  have hb4 := Classical.not_not.1 hb4
  have hi4 : (m1 : Int) + (a1 : Int) + (a2 : Int) + (a3 : Int) ≤ 1048576 := by omega
  go_wp2_with fail
  refine (C4.out _ HB3'.out).mono ?_
  rintro e v4 ⟨a4, rfl, ha4, hs4, hx4⟩
  have HS4 := Lib.hid hs4
  have HB4' : Hid (Below w.heap.size w v4) := Lib.hid (HB3'.out.trans (hx4.mono HB3'.out.size))
  have HO4' : Hid (v4.heap[w.heap.size]? = some (.cells #[.int .u8 (v.kind : Int), .string v.text, c.lv, c.hv, c.sv, c.zv, c.ev, .int .u64 (v.ms : Int), .int .u64 (v.seq : Int)] 42 (0, 0))) := Lib.hid ((hx4.block _ (Array.getElem?_eq_some_iff.1 (show v3.heap[w.heap.size]? = some (.cells #[.int .u8 (v.kind : Int), .string v.text, c.lv, c.hv, c.sv, c.zv, c.ev, .int .u64 (v.ms : Int), .int .u64 (v.seq : Int)] 42 (0, 0)) from HO3'.out)).1).trans HO3'.out)
  clear hs4 hx4 g4
  go_wp2_with fail
  go_ret
  exact ⟨m1 + a1 + a2 + a3 + a4, rfl, by omega, fun h => by have h0 := HS0.out; have h1 := HS1.out (by omega); have h2 := HS2.out (by omega); have h3 := HS3.out (by omega); have h4 := HS4.out (by omega); have h5 := M0.out; have h6 := M1.out; have h7 := h0 (by omega); unfold szVa; omega, HB4'.out⟩
end Go.Proofs.YtpnmhldaaaemeaaGreat.Snp
/- Chapter 24: how much items have in them. Printed by gen_sizei24.py. -/
namespace Go.Proofs.YtpnmhldaaaemeaaGreat.Snp
open Go.RowKit Go.Proofs.YtpnmhldaaaemeaaGreat.Pin

def szIt (it : It) : Nat := it.key.size + szVa it.val
structure ItT (it : It) : Prop where
  key : it.key.size ≤ 140737488351232
  val : VaT it.val
set_option maxHeartbeats 4000000 in
set_option maxRecDepth 100000 in
theorem sz_items (l : List It) (v : Value) (w : World) (hT : ItemsAt w w.heap.size v l) (hl : l.length ≤ 140737488351232) (hB : ∀ it ∈ l, VaB it.val) (hI : ∀ it ∈ l, ItT it) : Sized 5 #[v] w 4503599627370496 (szBy szIt l) := by
  obtain ⟨A, c, rfl, hT⟩ := hT
  unfold Sized
  obtain ⟨L, hL⟩ : ∃ L, L = l.length := ⟨_, rfl⟩
  rw [← hL] at hl ⊢
  have HL := Lib.hid hL
  have HT := Lib.hid hT
  have HVB := Lib.hid hB
  have HIT := Lib.hid hI
  clear hL hT hB hI
  go_enter Tryz.func5, Tryz.ntmps5
  go_wp2_with fail
  go_loopw [3, 4] (fun v i wr => ∃ (k n : Nat), k ≤ L ∧ i = .int .i64 k ∧ v = .int .i64 (n : Int) ∧ n ≤ 4503599627370496 ∧ Hid (n ≤ 1048576 → n = szTo szIt l k) ∧ Hid (Below w.heap.size w wr)) (fun _ i _ => L - (intOf i).toNat)
  case atStart => exact ⟨0, L, by omega, rfl, rfl, by omega, Lib.hid (fun _ => by rw [szto_zero]; exact HL.out), Lib.hid (Below.refl _ _)⟩
  case round =>
    obtain ⟨k, n, hk, rfl, rfl, hn, HN, HB⟩ := hrel
    by_cases hlt : k < L
    · have hlt' : (k : Int) < (L : Int) := by omega
      by_cases hm : n ≤ 1048576
      · have hm' : (n : Int) ≤ 1048576 := by omega
        have hks : k < l.length := by rw [← HL.out]; exact hlt
        obtain ⟨r, o, rfl, hr, hc⟩ := HT.out (by have := HL.out; omega)
        obtain ⟨cl, hra, hva⟩ := hc k hks
        have hvb := HVB.out _ (List.getElem_mem hks)
        have hit := HIT.out _ (List.getElem_mem hks)
        obtain ⟨x, hx⟩ : ∃ x, x = l[k] := ⟨_, rfl⟩
        rw [← hx] at hra hva hvb hit
        have HX := Lib.hid hx
        have hra' : wr.rangeAt r (o + k * 12) (icells x cl) := fun j u hj => (HB.out.cell (p := ⟨r, _, none⟩) hr).trans (hra j u hj)
        have d1 : wr.cell? ⟨r, o + k * 12 + 1, none⟩ = some (.string x.key) := hra' 1 _ rfl
        have d2 : wr.cell? ⟨r, o + k * 12 + 2, none⟩ = some (.int .u8 (x.val.kind : Int)) := hra' 2 _ rfl
        have d3 : wr.cell? ⟨r, o + k * 12 + 3, none⟩ = some (.string x.val.text) := hra' 3 _ rfl
        have d4 : wr.cell? ⟨r, o + k * 12 + 4, none⟩ = some (cl.lv) := hra' 4 _ rfl
        have d5 : wr.cell? ⟨r, o + k * 12 + 5, none⟩ = some (cl.hv) := hra' 5 _ rfl
        have d6 : wr.cell? ⟨r, o + k * 12 + 6, none⟩ = some (cl.sv) := hra' 6 _ rfl
        have d7 : wr.cell? ⟨r, o + k * 12 + 7, none⟩ = some (cl.zv) := hra' 7 _ rfl
        have d8 : wr.cell? ⟨r, o + k * 12 + 8, none⟩ = some (cl.ev) := hra' 8 _ rfl
        have d9 : wr.cell? ⟨r, o + k * 12 + 9, none⟩ = some (.int .u64 (x.val.ms : Int)) := hra' 9 _ rfl
        have d10 : wr.cell? ⟨r, o + k * 12 + 10, none⟩ = some (.int .u64 (x.val.seq : Int)) := hra' 10 _ rfl
        have HC : Hid (∀ q, Sized 12 #[vV x.val cl] (wr.drewN q) 2251799813685248 (szVa x.val)) := Lib.hid (fun q => sz_value x.val cl _ ((hva.below (below_drewN HB.out q)).more (by have := HB.out.size; show _ ≤ wr.heap.size; omega)) hvb hit.val)
        have hkx := hit.key
        obtain ⟨m1, hm1⟩ : ∃ m, m = n + x.key.size := ⟨_, rfl⟩
        have hw1 : IntKind.i64.wrap ((n : Int) + (x.key.size : Int)) = (m1 : Int) := by rw [IntKind.wrap_i64]; omega
        have hm1b : m1 ≤ 140737489399808 := by omega
        have M1 := Lib.hid hm1
        have HRL := Lib.hid (show r < wr.heap.size by have := HB.out.size; omega)
        have HS := Lib.hid d1
        clear hx hra hra' hva hvb hit hc hkx hm1
        go_wp2_with fail
        refine wp_region_pinS (fun w' => w'.cell? ⟨r, o + k * 12 + 1, none⟩ = some (.string x.key)) [0,0,0,0,0,0,0,0,0,0,0,0,1,2,0,0] (by kernel_rfl) (by kernel_rfl) (fun _ _ h => h) (HS.out) ?_
        (refine pin_pure (fun K hK => ?_); go_simp; refine hK _ _ ?_; clear hK K)
        (refine pin_pure (fun K hK => ?_); go_simp; refine hK _ _ ?_; clear hK K)
        (refine pin_pure (fun K hK => ?_); go_simp; refine hK _ _ ?_; clear hK K)
        (refine pin_pure (fun K hK => ?_); go_simp; refine hK _ _ ?_; clear hK K)
        (refine pin_pure (fun K hK => ?_); go_simp; refine hK _ _ ?_; clear hK K)
        (refine pin_fixed (fun K hK => ?_); go_simp; refine ⟨.string x.key, fun w => ?_, hK _ _ ?_⟩; (intros; go_simp); clear hK K)
        (refine pin_pure (fun K hK => ?_); go_simp; refine hK _ _ ?_; clear hK K)
        (refine pin_pure (fun K hK => ?_); go_simp; refine hK _ _ ?_; clear hK K)
        (refine pin_pure (fun K hK => ?_); go_simp; refine hK _ _ ?_; clear hK K)
        (refine pin_pure (fun K hK => ?_); go_simp; refine hK _ _ ?_; clear hK K)
        (refine pin_pure (fun K hK => ?_); go_simp; refine hK _ _ ?_; clear hK K)
        (refine pin_pure (fun K hK => ?_); go_simp; refine hK _ _ ?_; clear hK K)
        (refine pin_read (fun K hK => ?_); go_simp; refine hK _ _ ?_; clear hK K)
        (refine pin_writeS (fun K hK => ?_); go_simp; intro nw; refine (HC.out _).mono ?_; rintro e w2 ⟨a, rfl, ha, hsa, hb3⟩; obtain ⟨w2, rfl⟩ : ∃ w5, w2 = World.drewN w5 0 := ⟨w2, rfl⟩; have HB2 : Hid (Below wr.heap.size wr w2) := Lib.hid ((below_drewN (Below.refl _ wr) _).trans hb3); have HA := Lib.hid hsa; obtain ⟨m2, hm2⟩ : ∃ m, m = m1 + a := ⟨_, rfl⟩; have hw2 : IntKind.i64.wrap ((m1 : Int) + (a : Int)) = (m2 : Int) := (by rw [IntKind.wrap_i64]; omega); have M2 := Lib.hid hm2; have hm2b : m2 ≤ 4503599627370496 := (by omega); clear hb3 hsa hm2; refine ⟨_, rfl, _, ⟨_, rfl⟩, hK _ _ ?_ ?_⟩; (exact (HB2.out.cell (p := ⟨r, _, none⟩) HRL.out).trans HS.out); clear hK K)
        (refine pin_pure (fun K hK => ?_); go_simp; refine hK _ _ ?_; clear hK K)
        (refine pin_pure (fun K hK => ?_); go_simp; refine hK _ _ ?_; clear hK K)
        refine pin_nil ?_
        intro nq
        go_wp2_with fail
        refine ⟨⟨k + 1, m2, by omega, by go_num, rfl, hm2b, Lib.hid (fun h => ?_), Lib.hid (below_drewN (HB.out.trans (HB2.out.mono HB.out.size)) _)⟩, by simp [intOf]; omega⟩
        rw [szto_succ _ _ hks, ← HX.out, ← HN.out hm]
        have h1 := M1.out
        have h2 := M2.out
        have h3 := HA.out (by omega)
        unfold szIt
        omega
      · have hm' : ¬ (n : Int) ≤ 1048576 := by omega
        go_wp2_with fail
        go_ret
        exact ⟨n, rfl, hn, fun h => absurd h hm, HB.out⟩
    · have hlt' : ¬ ((k : Int) < (L : Int)) := by omega
      obtain rfl : k = L := by omega
      go_wp2_with fail
      go_ret
      refine ⟨n, rfl, hn, fun h => ?_, HB.out⟩
      rw [HN.out h, HL.out, szto_all]
end Go.Proofs.YtpnmhldaaaemeaaGreat.Snp
/- The walk of the statements' bound: Beyond tells whether sizes, added up one by one, pass 1048576. -/
namespace Go.Proofs.YtpnmhldaaaemeaaGreat.Bey
open Go.RowKit

/-- do they pass the bound, added to n one by one? -/
def beyond : Int → List Int → Bool
  | _, [] => false
  | n, x :: l => if 1048576 < n + x then true else beyond (n + x) l

theorem drop_cons (ns : List Int) (k : Nat) (h : k < ns.length) : ns.drop k = ns[k] :: ns.drop (k + 1) := by
  rw [List.drop_eq_getElem_cons h]

set_option maxHeartbeats 400000 in
set_option maxRecDepth 100000 in
theorem beyond_any (ns : List Int) (c : Nat) (g : Nat) (w : World) (hn : ns.length ≤ 281474976710656) (hb : ∀ x ∈ ns, 0 ≤ x ∧ x ≤ 4503599627370496)
    (hc : ∀ j (h : j < ns.length), w.cell? ⟨g, j, none⟩ = some (.int .i64 ns[j])) :
    Calls Tryz.prog 4 #[.slice (some ⟨g, 0, none⟩) ns.length c] w fun e w' => e = .returned (.bool (beyond 0 ns)) ∧ w = w' := by
  have HC := Lib.hid hc
  have HB := Lib.hid hb
  clear hc hb
  go_enter Tryz.func4, Tryz.ntmps4
  go_wp2
  go_loop [3, 4] (fun v i => ∃ (k : Nat) (n : Int), k ≤ ns.length ∧ i = .int .i64 k ∧ v = .int .i64 n ∧ 0 ≤ n ∧ n ≤ 1048576 ∧ Hid (beyond 0 ns = beyond n (ns.drop k))) (fun _ i => ns.length - (intOf i).toNat)
  case atStart => exact ⟨0, 0, by omega, rfl, rfl, by omega, by omega, Lib.hid rfl⟩
  case round =>
    obtain ⟨k, n, hk, rfl, rfl, h0, h1, HN⟩ := hrel
    by_cases hlt : k < ns.length
    · obtain ⟨x, hx⟩ : ∃ x, x = ns[k] := ⟨_, rfl⟩
      have hcell := HC.out k hlt
      have hbd := HB.out ns[k] (List.getElem_mem hlt)
      have HD : Hid (ns.drop k = x :: ns.drop (k + 1)) := by rw [hx]; exact drop_cons ns k hlt
      rw [← hx] at hcell hbd
      clear hx
      obtain ⟨hb0, hb1⟩ := hbd
      go_wp2
      · go_ret
        have ht : 1048576 < n + x := by omega
        exact ⟨by rw [HN.out, HD.out, beyond, if_pos ht]; rfl, rfl⟩
      · have ht : ¬ 1048576 < n + x := by omega
        exact ⟨⟨k + 1, n + x, by omega, by go_num, rfl, by omega, by omega, Lib.hid (by rw [HN.out, HD.out, beyond, if_neg ht])⟩, by simp [intOf]; omega⟩
    · have e : k = ns.length := by omega
      subst e
      go_wp2
      go_ret
      exact ⟨by rw [HN.out, List.drop_length]; rfl, rfl⟩
end Go.Proofs.YtpnmhldaaaemeaaGreat.Bey
/- Chapter 24: how long what is written is; items of a law, their twins. -/
namespace Go.Proofs.YtpnmhldaaaemeaaGreat.Snp
open Go.RowKit Go.Proofs.YtpnmhldaaaemeaaGreat.Pin
/-! ### How long -/
theorem flat_len {α : Type} (f : α → List UInt8) (sz : α → Nat) (a b : Nat) (hf : ∀ x, (f x).length ≤ a + b * sz x) (l : List α) : ((l.map f).flatten).length ≤ a * l.length + b * (l.map sz).sum := by
  induction l with
  | nil => simp
  | cons x l ih =>
    have := hf x
    simp only [List.map_cons, List.flatten_cons, List.length_append, List.length_cons, List.sum_cons, Nat.mul_add, Nat.mul_one]
    omega
theorem list_len {α : Type} (f : α → List UInt8) (sz : α → Nat) (a : Nat) (b : Nat) (hab : a ≤ b) (hf : ∀ x, (f x).length ≤ a + b * sz x) (l : List α) : (listB f l).length ≤ 4 + b * szBy sz l := by
  have h := flat_len f sz a b hf l
  simp only [listB, szBy, List.length_append, leB_len, Nat.mul_add]
  have := Nat.mul_le_mul_right l.length hab
  omega
theorem text_len (s : ByteArray) : (textB s).length ≤ 4 + 20 * s.size := by rw [textB_len]; omega
theorem pair_len (p : Pr) : (pairB p).length ≤ 8 + 20 * szPr p := by
  simp only [pairB, List.length_append, textB_len, szPr]; omega
theorem scored_len (p : Sc) : (scB p).length ≤ 12 + 20 * p.1.size := by
  simp only [scB, List.length_append, textB_len, leB_len]; omega
theorem entry_len (e : En) : (enB e).length ≤ 20 + 20 * szEn e := by
  have := list_len pairB szPr 8 20 (by decide) pair_len e.pairs
  simp only [enB, idB, List.length_append, leB_len, szEn]; omega
theorem va_len (v : Va) : (vaB v).length ≤ 20 + 20 * szVa v := by
  have h1 := text_len v.text
  have h2 := list_len textB (fun s => s.size) 4 20 (by decide) text_len v.list
  have h3 := list_len pairB szPr 8 20 (by decide) pair_len v.hash
  have h4 := list_len textB (fun s => s.size) 4 20 (by decide) text_len v.set
  have h5 := list_len scB (fun s => s.1.size) 12 20 (by decide) scored_len v.zset
  have h6 := list_len enB szEn 20 20 (by decide) entry_len v.stream
  unfold szVa vaB
  split
  all_goals try simp only [idB, List.length_append, leB_len, List.length_nil]
  all_goals omega
theorem it_len (it : It) : (itB it).length ≤ 35 + 20 * szIt it := by
  have := va_len it.val
  rw [itB_len]
  unfold szIt
  omega
theorem magic_len : magicB.length = 10 := rfl
theorem enc_len (l : List It) : (encB l).length ≤ 19 + 35 * szBy szIt l := by
  have := flat_len itB szIt 35 20 it_len l
  simp only [encB, bodyB, List.length_append, leB_len, magic_len, szBy, Nat.mul_add]
  omega
/-! ### Items of a law -/
structure Its (w : World) (v : Value) (l : List It) : Prop where
  at_ : ItemsAt w w.heap.size v l
  len : l.length ≤ 140737488351232
  vab : ∀ it ∈ l, VaB it.val
  ids : ∀ it ∈ l, IdsB it.val
  itt : ∀ it ∈ l, ItT it
theorem Its.below {w w' : World} {v : Value} {l : List It} (h : Its w v l) (hb : Below w.heap.size w w') : Its w' v l := ⟨(h.at_.below hb).more hb.size, h.len, h.vab, h.ids, h.itt⟩
noncomputable def encS (l : List It) : List UInt8 := if pb (CheckP l) = true then encB l else []
theorem encS_yes {l : List It} (h : CheckP l) : encS l = encB l := by unfold encS; rw [pb_true h]; rfl
theorem encS_no {l : List It} (h : ¬ CheckP l) : encS l = [] := by unfold encS; rw [pb_false h]; rfl
theorem Its.enc {w : World} {v : Value} {l : List It} (h : Its w v l) (hs : szBy szIt l ≤ 1048576) :
    Calls Tryz.prog 7 #[v] w fun e w' => e = .returned (.tuple #[.string ⟨(encS l).toArray⟩, .int .i64 (eno (CheckP l))]) ∧ Below w.heap.size w w' := by
  by_cases hc : CheckP l
  · rw [encS_yes hc, eno_yes hc]
    exact enc_yes l v w h.at_ h.len h.vab h.ids (by have := enc_len l; omega) hc
  · rw [encS_no hc, eno_no hc]
    exact enc_no l v w h.at_ h.len h.vab hc
theorem Its.refEnc {w : World} {v : Value} {l : List It} (h : Its w v l) (hs : szBy szIt l ≤ 1048576) :
    Calls Tryz.prog 8 #[v] w fun e w' => e = .returned (.tuple #[.string ⟨(encS l).toArray⟩, .int .i64 (eno (CheckP l))]) ∧ Below w.heap.size w w' := by
  by_cases hc : CheckP l
  · rw [encS_yes hc, eno_yes hc]
    exact ref_enc_yes l v w h.at_ h.len h.vab h.ids (by have := enc_len l; omega) hc
  · rw [encS_no hc, eno_no hc]
    exact ref_enc_no l v w h.at_ h.len h.vab hc
theorem Its.check {w : World} {v : Value} {l : List It} (h : Its w v l) : Calls Tryz.prog 9 #[v] w fun e w' => e = .returned (.int .i64 (eno (CheckP l))) ∧ Below w.heap.size w w' := check_any l v w h.at_ h.len h.vab
theorem Its.refCheck {w : World} {v : Value} {l : List It} (h : Its w v l) : Calls Tryz.prog 10 #[v] w fun e w' => e = .returned (.int .i64 (eno (CheckP l))) ∧ Below w.heap.size w w' := ref_check l v w h.at_ h.len h.vab
theorem Its.size {w : World} {v : Value} {l : List It} (h : Its w v l) : Sized 5 #[v] w 4503599627370496 (szBy szIt l) := sz_items l v w h.at_ h.len h.vab h.itt
/-! ### Twins -/
theorem mem_sz {α : Type} (f : α → Nat) {l : List α} {x : α} (h : x ∈ l) : f x ≤ szBy f l := by
  unfold szBy
  induction l with
  | nil => cases h
  | cons y l ih =>
    simp only [List.map_cons, List.sum_cons, List.length_cons]
    rcases List.mem_cons.1 h with rfl | h
    · omega
    · have := ih h
      omega
theorem len_sz {α : Type} (f : α → Nat) (l : List α) : l.length ≤ szBy f l := Nat.le_add_right _ _
theorem few_of {l : List It} (hs : szBy szIt l ≤ 1048576) : ∀ it ∈ l, Few it.val := by
  intro it hit
  have h1 := mem_sz szIt hit
  have h2 : szIt it = it.key.size + (1 + it.val.text.size + szBy (fun s => s.size) it.val.list + szBy szPr it.val.hash + szBy (fun s => s.size) it.val.set + szBy (fun s => s.1.size) it.val.zset + szBy szEn it.val.stream) := rfl
  have a1 := len_sz (fun s : ByteArray => s.size) it.val.list
  have a2 := len_sz szPr it.val.hash
  have a3 := len_sz (fun s : ByteArray => s.size) it.val.set
  have a4 := len_sz (fun s : Sc => s.1.size) it.val.zset
  have a5 := len_sz szEn it.val.stream
  refine ⟨by omega, by omega, by omega, by omega, by omega, fun y hy => ?_⟩
  have b1 := mem_sz szEn hy
  have b2 := len_sz szPr y.pairs
  have b3 : szEn y = szBy szPr y.pairs := rfl
  omega
theorem texts_tw {w : World} {ok : Nat → Prop} {v : Value} {l : List ByteArray} (h : Tw_texts w ok v l) : TextsAt w w.heap.size v l := by
  obtain ⟨g, e, _, hg, hc, _⟩ := h.cells
  refine ⟨_, _, e, fun _ => ⟨g, 0, rfl, hg, fun j hj => ?_⟩⟩
  obtain ⟨cs, _, h1, h2⟩ := hc j hj
  subst h1
  have := h2 0 _ rfl
  simpa using this
theorem pairs_tw {w : World} {ok : Nat → Prop} {v : Value} {l : List Pr} (h : Tw_pairs w ok v l) : PairsAt w w.heap.size v l := by
  obtain ⟨g, e, _, hg, hc, _⟩ := h.cells
  refine ⟨_, _, e, fun _ => ⟨g, 0, rfl, hg, fun j hj => ?_⟩⟩
  obtain ⟨cs, _, h1, h2⟩ := hc j hj
  subst h1
  have a := h2 0 _ rfl
  have b := h2 1 _ rfl
  exact ⟨by simpa using a, by simpa using b⟩
theorem scoreds_tw {w : World} {ok : Nat → Prop} {v : Value} {l : List Sc} (h : Tw_scoreds w ok v l) : ScoredsAt w w.heap.size v l := by
  obtain ⟨g, e, _, hg, hc, _⟩ := h.cells
  refine ⟨_, _, e, fun _ => ⟨g, 0, rfl, hg, fun j hj => ?_⟩⟩
  obtain ⟨cs, _, h1, h2⟩ := hc j hj
  subst h1
  have a := h2 0 _ rfl
  have b := h2 1 _ rfl
  exact ⟨by simpa using a, by simpa using b⟩
theorem entries_tw {w : World} {ok : Nat → Prop} {v : Value} {l : List En} (h : Tw_entries w ok v l) : EntriesAt w w.heap.size v l := by
  obtain ⟨g, e, _, hg, hc, _⟩ := h.cells
  refine ⟨_, _, e, fun _ => ⟨g, 0, rfl, hg, fun j hj => ?_⟩⟩
  obtain ⟨cs, _, ⟨pv, h1, hp⟩, h2⟩ := hc j hj
  subst h1
  have a := h2 0 _ rfl
  have b := h2 1 _ rfl
  have d := h2 2 _ rfl
  exact ⟨by simpa using a, by simpa using b, pv, by simpa using d, pairs_tw hp⟩
theorem items_tw {w : World} {ok : Nat → Prop} {v : Value} {l : List It} (h : Tw_items w ok v l) : ItemsAt w w.heap.size v l := by
  obtain ⟨g, e, _, hg, hc, _⟩ := h.cells
  refine ⟨_, _, e, fun _ => ⟨g, 0, rfl, hg, fun j hj => ?_⟩⟩
  obtain ⟨cs, _, ⟨c, h1, hv⟩, h2⟩ := hc j hj
  subst h1
  exact ⟨c, fun i u hu => by have := h2 i u hu; simpa using this, texts_tw hv.list, pairs_tw hv.hash, texts_tw hv.set, scoreds_tw hv.zset, entries_tw hv.stream⟩
end Go.Proofs.YtpnmhldaaaemeaaGreat.Snp
/- What can be read as data, read as plain data: slices, structs and texts, however they lie in one another; how small they are. Over any program. -/
namespace Go.Proofs.YtpnmhldaaaemeaaGreat.Rdg
open Go.RowKit Go.ChangeShapes Go.WideShapes Go.Deep
section
variable {H : Type} {enc : TypeId × Value → H} {P : Program} {w : World} {held : Bool} {α β : Type}
/-- whatever reads as a T is the cells of some a -/
def Rd (enc : TypeId × Value → H) (P : Program) (w : World) (held : Bool) (t : TypeId) (At : α → List Value → Prop) : Prop :=
  ∀ (fuel : Nat) (cs : List Value) (x : DataW H × List MemPlace), DataW.trod enc P w 0 (fun _ => true) held fuel t cs = some x → (∀ n ∈ x.1.weights P t, n ≤ reachBytes) → ∃ a, At a cs
theorem Rd.of {t : TypeId} {At : α → List Value → Prop} {Bt : β → List Value → Prop} (h : Rd enc P w held t At) (hb : ∀ a cs, At a cs → ∃ b, Bt b cs) : Rd enc P w held t Bt := fun fuel cs x h1 h2 => let ⟨a, ha⟩ := h fuel cs x h1 h2; hb a cs ha
def StrAt (s : ByteArray) (cs : List Value) : Prop := cs = [.string s] ∧ s.size ≤ 140737488351232
theorem rd_string {t : TypeId} (ht : P.underlying t = some .string) : Rd enc P w held t StrAt := by
  intro fuel cs x h hz
  obtain ⟨s, rfl, rfl, _⟩ := DataW.trod_string ht h
  refine ⟨s, rfl, ?_⟩
  have := hz s.data.toList.length (by simp [DataW.weights])
  rw [Array.length_toList] at this
  exact this
def NatAt (k : IntKind) (M : Nat) (n : Nat) (cs : List Value) : Prop := cs = [.int k (n : Int)] ∧ n < M
theorem rd_nat {t : TypeId} {k : IntKind} {M : Nat} (ht : P.underlying t = some (.int k)) (h0 : k.min = 0) (h1 : k.max + 1 = (M : Int)) : Rd enc P w held t (NatAt k M) := by
  intro fuel cs x h _
  obtain ⟨n, rfl, rfl, hw⟩ := DataW.trod_int ht h
  simp only [Lit.wf, Bool.and_eq_true, decide_eq_true_eq] at hw
  refine ⟨n.toNat, ?_, by omega⟩
  rw [show ((n.toNat : Nat) : Int) = n by omega]
def IntAt (k : IntKind) (n : Int) (cs : List Value) : Prop := cs = [.int k n] ∧ k.min ≤ n ∧ n ≤ k.max
theorem rd_int {t : TypeId} {k : IntKind} (ht : P.underlying t = some (.int k)) : Rd enc P w held t (IntAt k) := by
  intro fuel cs x h _
  obtain ⟨n, rfl, rfl, hw⟩ := DataW.trod_int ht h
  simp only [Lit.wf, Bool.and_eq_true, decide_eq_true_eq] at hw
  exact ⟨n, rfl, hw⟩
def BoolAt (b : Bool) (cs : List Value) : Prop := cs = [.bool b]
theorem rd_bool {t : TypeId} (ht : P.underlying t = some .bool) : Rd enc P w held t BoolAt := by
  intro fuel cs x h _
  obtain ⟨b, h1, _⟩ := DataW.trod_bool ht h
  exact ⟨b, h1⟩
def FltAt (n : Nat) (cs : List Value) : Prop := cs = [.float .f64 n] ∧ n < 18446744073709551616
theorem rd_float {t : TypeId} (ht : P.underlying t = some (.float .f64)) : Rd enc P w held t FltAt := by
  intro fuel cs x h _
  cases fuel with
  | zero => simp [DataW.trod] at h
  | succ fuel =>
    unfold DataW.trod at h
    rw [ht] at h
    split at h <;> simp_all [FltAt]
    rename_i heq
    subst heq
    simpa [Lit.wf] using h.1.2
def SlAt (w : World) (C : Nat) (At : α → List Value → Prop) (l : List α) (cs : List Value) : Prop :=
  ∃ A c, cs = [.slice A l.length c] ∧ l.length ≤ 140737488351232 ∧ (0 < l.length → ∃ r o, A = some ⟨r, o, none⟩ ∧ r < w.heap.size ∧ ∀ j (h : j < l.length), ∃ cs', At l[j] cs' ∧ cs'.length = C ∧ ∀ i u, cs'[i]? = some u → w.cell? ⟨r, o + j * C + i, none⟩ = some u)
theorem weightsAll_mem : ∀ {ds : List (DataW H)} {d : DataW H} {t : TypeId}, d ∈ ds → ∀ n ∈ d.weights P t, n ∈ DataW.weightsAll P t ds
  | d0 :: ds, d, t, hd, n, hn => by
    simp only [DataW.weightsAll, List.mem_append]
    rcases List.mem_cons.1 hd with rfl | hd
    · exact .inl hn
    · exact .inr (weightsAll_mem hd n hn)
theorem rd_slice {t e : TypeId} {C b : Nat} {At : α → List Value → Prop} (ht : P.underlying t = some (.slice e)) (hC : P.cellsOf e = C) (hC0 : 0 < C) (hb : P.bytesOf e = b) (hb0 : 0 < b) (h : Rd enc P w held e At) : Rd enc P w held t (SlAt w C At) := by
  intro fuel cs x hx hz
  rcases open_slice ht hx with ⟨rfl, rfl⟩ | ⟨a, len, cap, m, n, D, Pl, rfl, _, hl, hm, hmm, rfl, hi⟩
  · exact ⟨[], none, 0, rfl, Nat.zero_le _, fun h => absurd h (Nat.lt_irrefl _)⟩
  · simp only [if_true] at hmm
    simp only [DataW.weights, ht] at hz
    have hz1 := hz _ List.mem_cons_self
    rw [hb] at hz1
    simp only [List.length_map, List.length_range] at hz1
    have hlen : len ≤ 140737488351232 := by
      have h2 : len + (m - len) ≤ (len + (m - len)) * b := Nat.le_mul_of_pos_right _ hb0
      unfold reachBytes at hz1
      omega
    rw [hC] at hi
    have each : ∀ i : Fin len, ∃ z : α, ∃ cs', At z cs' ∧ cs'.length = C ∧ (∀ k u, cs'[k]? = some u → w.cell? ((a.add (i.1 * C)).add k) = some u) := by
      intro ⟨i, hlt⟩
      obtain ⟨cs', hc, ht'⟩ := hi i (by omega)
      obtain ⟨z, hz2⟩ := h _ _ _ ht' (fun k hk => hz k (by
        simp only [List.mem_cons, List.mem_append]
        exact .inr (.inl (weightsAll_mem (List.mem_map.2 ⟨i, List.mem_range.2 hlt, rfl⟩) k hk))))
      obtain ⟨_, hcl, hat⟩ := World.cells?_some hc
      exact ⟨z, cs', hz2, hcl, fun k u hu => by
        have hk : k < C := by have := (List.getElem?_eq_some_iff.1 hu).1; omega
        rw [hat k hk, hu]⟩
    obtain ⟨f, hf⟩ := Classical.axiomOfChoice each
    refine ⟨List.ofFn f, some a, cap, by simp, by simpa using hlen, fun h0 => ?_⟩
    have h0' : 0 < len := by simpa using h0
    obtain ⟨cs0, _, hl0, hat0⟩ := hf ⟨0, h0'⟩
    have hx0 := hat0 0 (cs0[0]'(by omega)) (by simp)
    have hsp : ∃ g o, a = ⟨g, o, none⟩ ∧ g < w.heap.size := by
      have hadd : (a.add (0 * C)).add 0 = a := by simp [Addr.add]
      rw [hadd] at hx0
      obtain ⟨e', sz, hsh, _, hsp⟩ := World.shape?_of_cell? hx0
      obtain ⟨g, o, s⟩ := a
      simp at hsp
      subst hsp
      exact ⟨g, o, rfl, World.block_lt_of_cell? w _ hx0⟩
    obtain ⟨g, o, rfl, hg⟩ := hsp
    refine ⟨g, o, rfl, hg, fun j hj => ?_⟩
    have hj' : j < len := by simpa using hj
    obtain ⟨cs', h1, h2, h3⟩ := hf ⟨j, hj'⟩
    refine ⟨cs', by simpa using h1, h2, fun i u hu => ?_⟩
    have := h3 i u hu
    simpa [Addr.add_lit] using this
/-- a struct's field -/
theorem struct_field {t : TypeId} {fs : Array Field} {fuel : Nat} {cs : List Value} {x : DataW H × List MemPlace} (ht : P.underlying t = some (.struct fs)) (h : DataW.trod enc P w 0 (fun _ => true) held fuel t cs = some x) (hz : ∀ n ∈ x.1.weights P t, n ≤ reachBytes) :
    cs.length = P.cellsOf t ∧ ∀ (i : Nat) (f : Field), fs[i]? = some f → ∀ (e o c : Nat), f.type = e → f.offset = o → P.cellsOf e = c → ∀ (At : α → List Value → Prop), Rd enc P w held e At → ∃ a, At a ((cs.drop o).take c) := by
  obtain ⟨xs, n, rfl, rfl, hl, hlen, hf⟩ := DataW.trod_struct ht h
  refine ⟨hl, fun i f hi e o c he ho hc At hrd => ?_⟩
  subst he ho hc
  have h1 := hf i f hi
  have hil : i < xs.length := by rw [hlen]; exact (Array.getElem?_eq_some_iff.1 hi).1
  have hx : xs[i]? = some xs[i] := List.getElem?_eq_getElem hil
  rw [hx] at h1
  refine hrd _ _ _ h1 fun k hk => hz k ?_
  simp only [DataW.weights, ht]
  exact DataW.weights_mem_each (j := i) (by rw [List.getElem?_map, Array.getElem?_toList, hi]; rfl) (by rw [List.getElem?_map, hx]; rfl) k hk
end
end Go.Proofs.YtpnmhldaaaemeaaGreat.Rdg
