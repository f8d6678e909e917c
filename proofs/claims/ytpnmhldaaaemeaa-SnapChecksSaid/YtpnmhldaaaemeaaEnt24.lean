/- Chapter 24: may an entry of a stream be. -/
import Derived.Test.YtpnmhldaaaemeaaRisP24
namespace Go.Proofs.Ytpnmhldaaaemeaa.Snp
open Go.RowKit Go.Proofs.Ytpnmhldaaaemeaa.Pin

def EntP (last : Nat × Nat) (e : En) : Prop := LessP (0, 0) (e.ms, e.seq) ∧ ¬ LessP last (e.ms, e.seq) ∧ 0 < e.pairs.length ∧ Ris PairP AnyP e.pairs
theorem box_of {wr w3 : World} {o : Obj} (hb : Below (wr.alloc o).heap.size (wr.alloc o) w3) : Below wr.heap.size wr w3 ∧ w3.heap[wr.heap.size]? = some o ∧ wr.heap.size < w3.heap.size := by
  have h := box_below (n := 0) (o := o) (wr := wr) (w3 := w3) hb
  exact ⟨h.1, h.2, (Array.getElem?_eq_some_iff.1 h.2).1⟩
theorem ret_no {P : Prop} (h : ¬ P) : Ending.returned (.bool false) = .returned (.bool (pb P)) := by rw [pb_false h]
theorem ret_yes {P : Prop} (h : P) : Ending.returned (.bool true) = .returned (.bool (pb P)) := by rw [pb_true h]
set_option maxHeartbeats 1000000 in
theorem ent_any (e : En) (pv : Value) (b ms seq : Nat) (w : World) (hp : PairsAt w w.heap.size pv e.pairs) (hl : e.pairs.length ≤ 140737488351232) (hb : b < w.heap.size) (h7 : w.cell? ⟨b, 7, none⟩ = some (.int .u64 (ms : Int))) (h8 : w.cell? ⟨b, 8, none⟩ = some (.int .u64 (seq : Int))) :
    Asks 94 #[.agg #[.int .u64 (e.ms : Int), .int .u64 (e.seq : Int), pv], .pointer (some ⟨b, 0, none⟩)] w (EntP (ms, seq) e) := by
  have HP := Lib.hid hp
  obtain ⟨A, c, rfl, _⟩ := hp
  have H7 := Lib.hid h7
  have H8 := Lib.hid h8
  unfold Asks
  obtain ⟨n, hn⟩ : ∃ n, n = e.pairs.length := ⟨_, rfl⟩
  rw [← hn] at hl HP ⊢
  have HN := Lib.hid hn
  clear h7 h8 hn
  by_cases h1 : ¬ LessP (0, 0) (e.ms, e.seq)
  · rw [pb_false (fun h => h1 h.1)]
    go_enter Try.func94, Try.ntmps94
    go_wp2_with fail
    refine ((less_any (0, 0) (e.ms, e.seq) _).no h1).mono ?_
    rintro e1 w1 ⟨rfl, hb1⟩
    have HB := Lib.hid (box_of hb1)
    clear hb1 h1
    go_wp2_with fail
    go_ret
    exact ⟨rfl, HB.out.1⟩
  · have h1 := Classical.not_not.1 h1
    have H1 := Lib.hid h1
    go_enter Try.func94, Try.ntmps94
    go_wp2_with fail
    refine ((less_any (0, 0) (e.ms, e.seq) _).yes H1.out).mono ?_
    rintro e1 w1 ⟨rfl, hb1⟩
    obtain ⟨g1, g2, g3⟩ := box_of hb1
    have HB := Lib.hid g1
    have HO := Lib.hid g2
    have c0 : w1.cell? ⟨w.heap.size, 0, none⟩ = some (.int .u64 (e.ms : Int)) := by rw [Lib.cell_of_heap g2]; rfl
    have c1 : w1.cell? ⟨w.heap.size, 1, none⟩ = some (.int .u64 (e.seq : Int)) := by rw [Lib.cell_of_heap g2]; rfl
    have c2 : w1.cell? ⟨w.heap.size, 2, none⟩ = some (.slice A n c) := by rw [Lib.cell_of_heap g2]; rfl
    have d7 : w1.cell? ⟨b, 7, none⟩ = some (.int .u64 (ms : Int)) := (g1.cell (p := ⟨b, 7, none⟩) hb).trans H7.out
    have d8 : w1.cell? ⟨b, 8, none⟩ = some (.int .u64 (seq : Int)) := (g1.cell (p := ⟨b, 8, none⟩) hb).trans H8.out
    clear hb1 g1 g2 h1
    by_cases h2 : LessP (ms, seq) (e.ms, e.seq)
    · have H2 := Lib.hid h2
      clear h2
      go_wp2_with fail
      refine ((less_any (ms, seq) (e.ms, e.seq) _).yes H2.out).mono ?_
      rintro e1 w2 ⟨rfl, hb2⟩
      have HB2 := Lib.hid (HB.out.trans (hb2.mono HB.out.size))
      clear hb2
      go_wp2_with fail
      go_ret
      exact ⟨ret_no (fun h => h.2.1 H2.out), HB2.out⟩
    · have H2 := Lib.hid h2
      clear h2
      go_wp2_with fail
      refine ((less_any (ms, seq) (e.ms, e.seq) _).no H2.out).mono ?_
      rintro e1 w2 ⟨rfl, hb2⟩
      have HB2 := Lib.hid (HB.out.trans (hb2.mono HB.out.size))
      have e2 : w2.cell? ⟨w.heap.size, 2, none⟩ = some (.slice A n c) := (hb2.cell (p := ⟨w.heap.size, 2, none⟩) g3).trans c2
      clear hb2 c0 c1 c2 d7 d8
      by_cases h3 : 0 < n
      · have h3' : (0 : Int) < (n : Int) := by omega
        by_cases h4 : ¬ Ris PairP AnyP e.pairs
        · have H4 := Lib.hid h4
          clear h4
          go_wp2_with fail
          refine ((ris_pairs e.pairs _ w2 ((HP.out.below HB2.out).more HB2.out.size) (by have := HN.out; omega)).no H4.out).mono ?_
          rintro e1 w3 ⟨rfl, hb3⟩
          have HB3 := Lib.hid (HB2.out.trans (hb3.mono HB2.out.size))
          clear hb3
          go_wp2_with fail
          go_ret
          exact ⟨ret_no (fun h => H4.out h.2.2.2), HB3.out⟩
        · have h4 := Classical.not_not.1 h4
          have H4 := Lib.hid h4
          clear h4
          go_wp2_with fail
          refine ((ris_pairs e.pairs _ w2 ((HP.out.below HB2.out).more HB2.out.size) (by have := HN.out; omega)).yes H4.out).mono ?_
          rintro e1 w3 ⟨rfl, hb3⟩
          have HB3 := Lib.hid (HB2.out.trans (hb3.mono HB2.out.size))
          clear hb3
          go_wp2_with fail
          go_ret
          exact ⟨ret_yes ⟨H1.out, H2.out, by have := HN.out; omega, H4.out⟩, HB3.out⟩
      · have h3' : ¬ (0 : Int) < (n : Int) := by omega
        go_wp2_with fail
        go_ret
        exact ⟨ret_no (fun h => by have h5 := h.2.2.1; have := HN.out; omega), HB2.out⟩
end Go.Proofs.Ytpnmhldaaaemeaa.Snp
