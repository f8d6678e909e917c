import Derived.Test.YtpnmhldaaaemeaaGreatMa4
import Derived.MapKept
import Derived.WalkKit
import Derived.Below
import Derived.Carry
import Derived.Laws.AppendOwn
/- Chapter 24: may an entry of a stream be. -/
namespace Go.Proofs.YtpnmhldaaaemeaaGreat.Snp
open Go.RowKit Go.Proofs.YtpnmhldaaaemeaaGreat.Pin

def EntP (last : Nat × Nat) (e : En) : Prop := LessP (0, 0) (e.ms, e.seq) ∧ ¬ LessP last (e.ms, e.seq) ∧ 0 < e.pairs.length ∧ Ris PairP AnyP e.pairs
theorem box_of {wr w3 : World} {o : Obj} (hb : Below (wr.alloc o).heap.size (wr.alloc o) w3) : Below wr.heap.size wr w3 ∧ w3.heap[wr.heap.size]? = some o ∧ wr.heap.size < w3.heap.size := by
  have h := box_below (n := 0) (o := o) (wr := wr) (w3 := w3) hb
  exact ⟨h.1, h.2, (Array.getElem?_eq_some_iff.1 h.2).1⟩
theorem ret_no {P : Prop} (h : ¬ P) : Ending.returned (.bool false) = .returned (.bool (pb P)) := by rw [pb_false h]
theorem ret_yes {P : Prop} (h : P) : Ending.returned (.bool true) = .returned (.bool (pb P)) := by rw [pb_true h]
set_option maxHeartbeats 1000000 in
theorem ent_any (e : En) (pv : Value) (b ms seq : Nat) (w : World) (hp : PairsAt w w.heap.size pv e.pairs) (hl : e.pairs.length ≤ 140737488351232) (hb : b < w.heap.size) (h7 : w.cell? ⟨b, 7, none⟩ = some (.int .u64 (ms : Int))) (h8 : w.cell? ⟨b, 8, none⟩ = some (.int .u64 (seq : Int))) :
    Asks 95 #[.agg #[.int .u64 (e.ms : Int), .int .u64 (e.seq : Int), pv], .pointer (some ⟨b, 0, none⟩)] w (EntP (ms, seq) e) := by
  have HP := Lib.hid hp
  obtain ⟨A, c, rfl, _⟩ := hp
  have H7 := Lib.hid h7
  have H8 := Lib.hid h8
  unfold Asks
  obtain ⟨n, hn⟩ : ∃ n, n = e.pairs.length := ⟨_, rfl⟩
  rw [← hn] at hl HP ⊢
  have HN := Lib.hid hn
  clear h7 h8 hn
  by_cases h1 : ¬ LessP (0, 0) (e.ms, e.seq)
  · rw [pb_false (fun h => h1 h.1)]
    go_enter Tryz.func95, Tryz.ntmps95
    go_wp2_with fail
    refine ((less_any (0, 0) (e.ms, e.seq) _).no h1).mono ?_
    rintro e1 w1 ⟨rfl, hb1⟩
    have HB := Lib.hid (box_of hb1)
    clear hb1 h1
    go_wp2_with fail
    go_ret
    exact ⟨rfl, HB.out.1⟩
  · have h1 := Classical.not_not.1 h1
    have H1 := Lib.hid h1
    go_enter Tryz.func95, Tryz.ntmps95
    go_wp2_with fail
    refine ((less_any (0, 0) (e.ms, e.seq) _).yes H1.out).mono ?_
    rintro e1 w1 ⟨rfl, hb1⟩
    obtain ⟨g1, g2, g3⟩ := box_of hb1
    have HB := Lib.hid g1
    have HO := Lib.hid g2
    have c0 : w1.cell? ⟨w.heap.size, 0, none⟩ = some (.int .u64 (e.ms : Int)) := by rw [Lib.cell_of_heap g2]; rfl
    have c1 : w1.cell? ⟨w.heap.size, 1, none⟩ = some (.int .u64 (e.seq : Int)) := by rw [Lib.cell_of_heap g2]; rfl
    have c2 : w1.cell? ⟨w.heap.size, 2, none⟩ = some (.slice A n c) := by rw [Lib.cell_of_heap g2]; rfl
    have d7 : w1.cell? ⟨b, 7, none⟩ = some (.int .u64 (ms : Int)) := (g1.cell (p := ⟨b, 7, none⟩) hb).trans H7.out
    have d8 : w1.cell? ⟨b, 8, none⟩ = some (.int .u64 (seq : Int)) := (g1.cell (p := ⟨b, 8, none⟩) hb).trans H8.out
    clear hb1 g1 g2 h1
    by_cases h2 : LessP (ms, seq) (e.ms, e.seq)
    · have H2 := Lib.hid h2
      clear h2
      go_wp2_with fail
      refine ((less_any (ms, seq) (e.ms, e.seq) _).yes H2.out).mono ?_
      rintro e1 w2 ⟨rfl, hb2⟩
      have HB2 := Lib.hid (HB.out.trans (hb2.mono HB.out.size))
      clear hb2
      go_wp2_with fail
      go_ret
      exact ⟨ret_no (fun h => h.2.1 H2.out), HB2.out⟩
    · have H2 := Lib.hid h2
      clear h2
      go_wp2_with fail
      refine ((less_any (ms, seq) (e.ms, e.seq) _).no H2.out).mono ?_
      rintro e1 w2 ⟨rfl, hb2⟩
      have HB2 := Lib.hid (HB.out.trans (hb2.mono HB.out.size))
      have e2 : w2.cell? ⟨w.heap.size, 2, none⟩ = some (.slice A n c) := (hb2.cell (p := ⟨w.heap.size, 2, none⟩) g3).trans c2
      clear hb2 c0 c1 c2 d7 d8
      by_cases h3 : 0 < n
      · have h3' : (0 : Int) < (n : Int) := by omega
        by_cases h4 : ¬ Ris PairP AnyP e.pairs
        · have H4 := Lib.hid h4
          clear h4
          go_wp2_with fail
          refine ((ris_pairs e.pairs _ w2 ((HP.out.below HB2.out).more HB2.out.size) (by have := HN.out; omega)).no H4.out).mono ?_
          rintro e1 w3 ⟨rfl, hb3⟩
          have HB3 := Lib.hid (HB2.out.trans (hb3.mono HB2.out.size))
          clear hb3
          go_wp2_with fail
          go_ret
          exact ⟨ret_no (fun h => H4.out h.2.2.2), HB3.out⟩
        · have h4 := Classical.not_not.1 h4
          have H4 := Lib.hid h4
          clear h4
          go_wp2_with fail
          refine ((ris_pairs e.pairs _ w2 ((HP.out.below HB2.out).more HB2.out.size) (by have := HN.out; omega)).yes H4.out).mono ?_
          rintro e1 w3 ⟨rfl, hb3⟩
          have HB3 := Lib.hid (HB2.out.trans (hb3.mono HB2.out.size))
          clear hb3
          go_wp2_with fail
          go_ret
          exact ⟨ret_yes ⟨H1.out, H2.out, by have := HN.out; omega, H4.out⟩, HB3.out⟩
      · have h3' : ¬ (0 : Int) < (n : Int) := by omega
        go_wp2_with fail
        go_ret
        exact ⟨ret_no (fun h => by have h5 := h.2.2.1; have := HN.out; omega), HB2.out⟩
end Go.Proofs.YtpnmhldaaaemeaaGreat.Snp
/- Chapter 24: 'rising' over a stream's entries; may a stream be. Printed by mk_rise24.py out of gen_risp24.py, then by hand. -/
namespace Go.Proofs.YtpnmhldaaaemeaaGreat.Snp
open Go.RowKit Go.Proofs.YtpnmhldaaaemeaaGreat.Pin

def ElessP (a b : En) : Prop := LessP (a.ms, a.seq) (b.ms, b.seq)
theorem eless_any (x y : En) (pv qv : Value) (w : World) : Asks 98 #[.agg #[.int .u64 (x.ms : Int), .int .u64 (x.seq : Int), pv], .agg #[.int .u64 (y.ms : Int), .int .u64 (y.seq : Int), qv]] w (ElessP x y) := by
  unfold Asks
  go_enter Tryz.func98, Tryz.ntmps98
  go_wp2_with fail
  refine (less_any (x.ms, x.seq) (y.ms, y.seq) _).mono ?_
  rintro e1 w1 ⟨rfl, hb1⟩
  have HB : Hid (Below w.heap.size w w1) := Lib.hid ((((Below.refl w.heap.size w).alloc (Nat.le_refl _) _).alloc (by simp) _).trans (hb1.mono (by simp; omega)))
  clear hb1
  go_wp2_with fail
  go_ret
  exact ⟨rfl, HB.out⟩
set_option maxHeartbeats 2000000 in
set_option maxRecDepth 100000 in
theorem ris_stream (l : List En) (v : Value) (b ms seq : Nat) (w : World) (hT : EntriesAt w w.heap.size v l) (hpl : ∀ e ∈ l, e.pairs.length ≤ 140737488351232) (hb : b < w.heap.size) (h7 : w.cell? ⟨b, 7, none⟩ = some (.int .u64 (ms : Int))) (h8 : w.cell? ⟨b, 8, none⟩ = some (.int .u64 (seq : Int))) (hl : l.length ≤ 140737488351232) :
    Asks 94 #[v, .func (.func 95) #[] #[.pointer (some ⟨b, 0, none⟩)], .func (.func 98) #[] #[]] w (Ris (EntP (ms, seq)) ElessP l) := by
  obtain ⟨A, c, rfl, hT⟩ := hT
  unfold Asks
  obtain ⟨L, hL⟩ : ∃ L, L = l.length := ⟨_, rfl⟩
  rw [← hL] at hl ⊢
  have HL := Lib.hid hL
  have HT := Lib.hid hT
  have HPL := Lib.hid hpl
  have H7 := Lib.hid h7
  have H8 := Lib.hid h8
  clear hL hT hpl h7 h8
  by_cases hbig : (1048576 : Int) < (L : Int)
  · rw [pb_false (show ¬ Ris (EntP (ms, seq)) ElessP l from fun h => by have := h.1; have := HL.out; omega)]
    go_enter Tryz.func94, Tryz.ntmps94
    go_wp2_with fail
    go_ret
    exact ⟨rfl, Below.refl _ _⟩
  · go_enter Tryz.func94, Tryz.ntmps94
    go_wp2_with fail
    go_loopw [14] (fun i wr => ∃ (k : Nat), k ≤ L ∧ i = .int .i64 k ∧ Hid (Upto (EntP (ms, seq)) ElessP l k) ∧ Hid (Below w.heap.size w wr)) (fun i _ => L - (intOf i).toNat)
    case atStart => exact ⟨0, by omega, rfl, Lib.hid (upto_zero _ _ _), Lib.hid (Below.refl _ _)⟩
    case round =>
      obtain ⟨k, hk, rfl, HU, HB⟩ := hrel
      by_cases hlt : k < L
      · have hlt' : (k : Int) < (L : Int) := by omega
        have hkl : k < l.length := by rw [← HL.out]; exact hlt
        obtain ⟨r, o, rfl, hr, hc⟩ := HT.out (by have := HL.out; omega)
        have hsz := HB.out.size
        obtain ⟨hca, hcb, pv, hcd, hpv⟩ := hc k hkl
        have hck := (HB.out.cell (p := ⟨r, _, none⟩) hr).trans hca
        have hck2 := (HB.out.cell (p := ⟨r, _, none⟩) hr).trans hcb
        have hck3 := (HB.out.cell (p := ⟨r, _, none⟩) hr).trans hcd
        have hxl : (l[k]).pairs.length ≤ 140737488351232 := HPL.out _ (List.getElem_mem _)
        obtain ⟨x, hx⟩ : ∃ x, x = l[k] := ⟨_, rfl⟩
        rw [← hx] at hck hck2 hxl hpv
        have HPV := Lib.hid hpv
        obtain ⟨pA, pC, rfl, _⟩ := hpv
        have HMAY : Hid (∀ W, Below w.heap.size w W → w.heap.size ≤ W.heap.size → Asks 95 #[.agg #[.int .u64 (x.ms : Int), .int .u64 (x.seq : Int), .slice pA x.pairs.length pC], .pointer (some ⟨b, 0, none⟩)] W (EntP (ms, seq) x)) :=
          Lib.hid (fun W hW hs => ent_any x _ b ms seq W ((HPV.out.below hW).more hs) hxl (by omega) ((hW.cell (p := ⟨b, 7, none⟩) hb).trans H7.out) ((hW.cell (p := ⟨b, 8, none⟩) hb).trans H8.out))
        obtain ⟨xn, hxn⟩ : ∃ xn, xn = x.pairs.length := ⟨_, rfl⟩
        rw [← hxn] at HMAY HPV hck3
        have HX := Lib.hid hx
        have HC := Lib.hid hc
        clear hc hca hcb hcd hx hxn hxl
        go_wp2_with fail
        by_cases hm : ¬ (EntP (ms, seq)) x
        · have HN := Lib.hid hm
          clear hm
          refine wp_region_q [0,1,2,0,0,0,0,0,0,0,0,0,0,1,1,2,0,0,0] (by kernel_rfl) (by kernel_rfl) ?_
          (refine q_pure_n rfl (fun K hK => ?_); go_simp; refine hK _ _ ?_; clear hK K)
          (refine q_read_n rfl (fun K hK => ?_); go_simp; refine hK _ _ ?_; clear hK K)
          (refine q_write_n rfl (fun K hK => ?_); go_simp; intro nw; refine ((HMAY.out _ (below_drewN (HB.out.alloc hsz _) _) (by show w.heap.size ≤ (wr.alloc _).heap.size; simp; omega)).no HN.out).mono ?_; rintro e w3 ⟨rfl, hb3⟩; obtain ⟨hbb, hbo⟩ := box_below hb3; clear hb3; obtain ⟨w3, rfl⟩ : ∃ w5, w3 = World.drewN w5 0 := ⟨w3, rfl⟩; have HB3 : Hid (Below wr.heap.size wr w3) := Lib.hid hbb; have hbo : w3.heap[wr.heap.size]? = _ := hbo; have hx3 : w3.cell? ⟨wr.heap.size, 0, none⟩ = some (.int .u64 (x.ms : Int)) := (by rw [Lib.cell_of_heap hbo]; rfl); have hx4 : w3.cell? ⟨wr.heap.size, 1, none⟩ = some (.int .u64 (x.seq : Int)) := (by rw [Lib.cell_of_heap hbo]; rfl); have hx5 : w3.cell? ⟨wr.heap.size, 2, none⟩ = some (.slice pA xn pC) := (by rw [Lib.cell_of_heap hbo]; rfl); clear hbb hbo; refine ⟨_, rfl, _, ⟨_, rfl⟩, hK _ _ ?_⟩; clear hK K)
          (refine q_pure_n rfl (fun K hK => ?_); go_simp; refine hK _ _ ?_; clear hK K)
          (refine q_pure_n rfl (fun K hK => ?_); go_simp; refine hK _ _ ?_; clear hK K)
          first | (refine q_pure_x rfl ?hy (fun K hK => ?_); (case hy => rfl); go_simp; refine hK _ _ ?_; clear hK K) | (refine q_pure_u rfl ?hy (fun K hK => ?_); (case hy => rfl); go_simp; refine hK _ _ ?_; clear hK K) | (refine q_pure_y rfl ?hy (fun K hK => ?_); (case hy => rfl); go_simp; refine hK _ _ ?_; clear hK K)
          first | (refine q_pure_x rfl ?hy (fun K hK => ?_); (case hy => rfl); go_simp; refine hK _ _ ?_; clear hK K) | (refine q_pure_u rfl ?hy (fun K hK => ?_); (case hy => rfl); go_simp; refine hK _ _ ?_; clear hK K) | (refine q_pure_y rfl ?hy (fun K hK => ?_); (case hy => rfl); go_simp; refine hK _ _ ?_; clear hK K)
          first | (refine q_pure_x rfl ?hy (fun K hK => ?_); (case hy => rfl); go_simp; refine hK _ _ ?_; clear hK K) | (refine q_pure_u rfl ?hy (fun K hK => ?_); (case hy => rfl); go_simp; refine hK _ _ ?_; clear hK K) | (refine q_pure_y rfl ?hy (fun K hK => ?_); (case hy => rfl); go_simp; refine hK _ _ ?_; clear hK K)
          first | (refine q_pure_x rfl ?hy (fun K hK => ?_); (case hy => rfl); go_simp; refine hK _ _ ?_; clear hK K) | (refine q_pure_u rfl ?hy (fun K hK => ?_); (case hy => rfl); go_simp; refine hK _ _ ?_; clear hK K) | (refine q_pure_y rfl ?hy (fun K hK => ?_); (case hy => rfl); go_simp; refine hK _ _ ?_; clear hK K)
          first | (refine q_pure_x rfl ?hy (fun K hK => ?_); (case hy => rfl); go_simp; refine hK _ _ ?_; clear hK K) | (refine q_pure_u rfl ?hy (fun K hK => ?_); (case hy => rfl); go_simp; refine hK _ _ ?_; clear hK K) | (refine q_pure_y rfl ?hy (fun K hK => ?_); (case hy => rfl); go_simp; refine hK _ _ ?_; clear hK K)
          first | (refine q_pure_x rfl ?hy (fun K hK => ?_); (case hy => rfl); go_simp; refine hK _ _ ?_; clear hK K) | (refine q_pure_u rfl ?hy (fun K hK => ?_); (case hy => rfl); go_simp; refine hK _ _ ?_; clear hK K) | (refine q_pure_y rfl ?hy (fun K hK => ?_); (case hy => rfl); go_simp; refine hK _ _ ?_; clear hK K)
          first | (refine q_pure_x rfl ?hy (fun K hK => ?_); (case hy => rfl); go_simp; refine hK _ _ ?_; clear hK K) | (refine q_pure_u rfl ?hy (fun K hK => ?_); (case hy => rfl); go_simp; refine hK _ _ ?_; clear hK K) | (refine q_pure_y rfl ?hy (fun K hK => ?_); (case hy => rfl); go_simp; refine hK _ _ ?_; clear hK K)
          first | (refine q_pure_x rfl ?hy (fun K hK => ?_); (case hy => rfl); go_simp; refine hK _ _ ?_; clear hK K) | (refine q_pure_u rfl ?hy (fun K hK => ?_); (case hy => rfl); go_simp; refine hK _ _ ?_; clear hK K) | (refine q_pure_y rfl ?hy (fun K hK => ?_); (case hy => rfl); go_simp; refine hK _ _ ?_; clear hK K)
          first | (refine q_read_x rfl ?hy (fun K hK => ?_); (case hy => rfl); go_simp; refine hK _ _ ?_; clear hK K) | (refine q_read_u rfl ?hy (fun K hK => ?_); (case hy => rfl); go_simp; refine hK _ _ ?_; clear hK K) | (refine q_read_y rfl ?hy (fun K hK => ?_); (case hy => rfl); go_simp; refine hK _ _ ?_; clear hK K)
          first | (refine q_read_x rfl ?hy (fun K hK => ?_); (case hy => rfl); go_simp; refine hK _ _ ?_; clear hK K) | (refine q_read_u rfl ?hy (fun K hK => ?_); (case hy => rfl); go_simp; refine hK _ _ ?_; clear hK K) | (refine q_read_y rfl ?hy (fun K hK => ?_); (case hy => rfl); go_simp; refine hK _ _ ?_; clear hK K)
          first | (refine q_write_x rfl ?hy (fun K hK => ?_); (case hy => rfl); go_simp; refine hK _ _ ?_; clear hK K) | (refine q_write_u rfl ?hy (fun K hK => ?_); (case hy => rfl); go_simp; refine hK _ _ ?_; clear hK K) | (refine q_write_y rfl ?hy (fun K hK => ?_); (case hy => rfl); go_simp; intro nw; fail; refine ⟨_, rfl, _, ⟨_, rfl⟩, hK _ _ ?_⟩; clear hK K)
          first | (refine q_pure_x rfl ?hy (fun K hK => ?_); (case hy => rfl); go_simp; refine hK _ _ ?_; clear hK K) | (refine q_pure_u rfl ?hy (fun K hK => ?_); (case hy => rfl); go_simp; refine hK _ _ ?_; clear hK K) | (refine q_pure_y rfl ?hy (fun K hK => ?_); (case hy => rfl); go_simp; refine hK _ _ ?_; clear hK K)
          first | (refine q_pure_x rfl ?hy (fun K hK => ?_); (case hy => rfl); go_simp; refine hK _ _ ?_; clear hK K) | (refine q_pure_u rfl ?hy (fun K hK => ?_); (case hy => rfl); go_simp; refine hK _ _ ?_; clear hK K) | (refine q_pure_y rfl ?hy (fun K hK => ?_); (case hy => rfl); go_simp; refine hK _ _ ?_; clear hK K)
          (refine q_pure_n rfl (fun K hK => ?_); go_simp; refine hK _ _ ?_; clear hK K)
          refine q_nil ?_
          intro nq
          go_wp2_with fail
          go_ret
          refine ⟨?_, below_drewN (HB.out.trans (HB3.out.mono hsz)) _⟩
          rw [pb_false (fun h => by
            have := (h.2 k hkl).1
            rw [← HX.out] at this
            exact HN.out this)]
          rfl
        · have HMX := Lib.hid (Classical.not_not.1 hm)
          clear hm
          by_cases hk0 : 0 < k
          · have hk0' : (0 : Int) < (k : Int) := by omega
            obtain ⟨hcp, hcq, qv, hcr, hqv⟩ := HC.out (k - 1) (by omega)
            obtain ⟨y, hy⟩ : ∃ y, y = l[k - 1] := ⟨_, rfl⟩
            rw [← hy] at hcp hcq hqv
            obtain ⟨qA, qC, rfl, _⟩ := hqv
            obtain ⟨yn, hyn⟩ : ∃ yn, yn = y.pairs.length := ⟨_, rfl⟩
            rw [← hyn] at hcr
            have HY := Lib.hid hy
            obtain ⟨kp, hkp⟩ : ∃ kp, kp = k - 1 := ⟨_, rfl⟩
            have hkpl : (kp : Int) < (L : Int) := by omega
            have hwk : IntKind.i64.wrap ((k : Int) - 1) = (kp : Int) := by rw [IntKind.wrap_i64]; omega
            rw [← hkp] at hcp hcq hcr
            clear hy hkp hyn
            by_cases ha : ¬ ElessP y x
            · have HN := Lib.hid ha
              clear ha
              refine wp_region_q [0,1,2,0,0,0,0,0,0,0,0,0,0,1,1,2,0,0,0] (by kernel_rfl) (by kernel_rfl) ?_
              (refine q_pure_n rfl (fun K hK => ?_); go_simp; refine hK _ _ ?_; clear hK K)
              (refine q_read_n rfl (fun K hK => ?_); go_simp; refine hK _ _ ?_; clear hK K)
              (refine q_write_n rfl (fun K hK => ?_); go_simp; intro nw; refine ((HMAY.out _ (below_drewN (HB.out.alloc hsz _) _) (by show w.heap.size ≤ (wr.alloc _).heap.size; simp; omega)).yes HMX.out).mono ?_; rintro e w3 ⟨rfl, hb3⟩; obtain ⟨hbb, hbo⟩ := box_below hb3; clear hb3; obtain ⟨w3, rfl⟩ : ∃ w5, w3 = World.drewN w5 0 := ⟨w3, rfl⟩; have HB3 : Hid (Below wr.heap.size wr w3) := Lib.hid hbb; have hbo : w3.heap[wr.heap.size]? = _ := hbo; have hx3 : w3.cell? ⟨wr.heap.size, 0, none⟩ = some (.int .u64 (x.ms : Int)) := (by rw [Lib.cell_of_heap hbo]; rfl); have hx4 : w3.cell? ⟨wr.heap.size, 1, none⟩ = some (.int .u64 (x.seq : Int)) := (by rw [Lib.cell_of_heap hbo]; rfl); have hx5 : w3.cell? ⟨wr.heap.size, 2, none⟩ = some (.slice pA xn pC) := (by rw [Lib.cell_of_heap hbo]; rfl); clear hbb hbo; have hy3 : w3.cell? ⟨r, o + kp * 3, none⟩ = some (.int .u64 (y.ms : Int)) := ((HB.out.trans (HB3.out.mono hsz)).cell (p := ⟨r, _, none⟩) hr).trans hcp; have hy4 : w3.cell? ⟨r, o + kp * 3 + 1, none⟩ = some (.int .u64 (y.seq : Int)) := ((HB.out.trans (HB3.out.mono hsz)).cell (p := ⟨r, _, none⟩) hr).trans hcq; have hy5 : w3.cell? ⟨r, o + kp * 3 + 2, none⟩ = some (.slice qA yn qC) := ((HB.out.trans (HB3.out.mono hsz)).cell (p := ⟨r, _, none⟩) hr).trans hcr; refine ⟨_, rfl, _, ⟨_, rfl⟩, hK _ _ ?_⟩; clear hK K)
              (refine q_pure_n rfl (fun K hK => ?_); go_simp; refine hK _ _ ?_; clear hK K)
              (refine q_pure_n rfl (fun K hK => ?_); go_simp; refine hK _ _ ?_; clear hK K)
              first | (refine q_pure_x rfl ?hy (fun K hK => ?_); (case hy => rfl); go_simp; refine hK _ _ ?_; clear hK K) | (refine q_pure_u rfl ?hy (fun K hK => ?_); (case hy => rfl); go_simp; refine hK _ _ ?_; clear hK K) | (refine q_pure_y rfl ?hy (fun K hK => ?_); (case hy => rfl); go_simp; refine hK _ _ ?_; clear hK K)
              first | (refine q_pure_x rfl ?hy (fun K hK => ?_); (case hy => rfl); go_simp; refine hK _ _ ?_; clear hK K) | (refine q_pure_u rfl ?hy (fun K hK => ?_); (case hy => rfl); go_simp; refine hK _ _ ?_; clear hK K) | (refine q_pure_y rfl ?hy (fun K hK => ?_); (case hy => rfl); go_simp; refine hK _ _ ?_; clear hK K)
              first | (refine q_pure_x rfl ?hy (fun K hK => ?_); (case hy => rfl); go_simp; refine hK _ _ ?_; clear hK K) | (refine q_pure_u rfl ?hy (fun K hK => ?_); (case hy => rfl); go_simp; refine hK _ _ ?_; clear hK K) | (refine q_pure_y rfl ?hy (fun K hK => ?_); (case hy => rfl); go_simp; refine hK _ _ ?_; clear hK K)
              first | (refine q_pure_x rfl ?hy (fun K hK => ?_); (case hy => rfl); go_simp; refine hK _ _ ?_; clear hK K) | (refine q_pure_u rfl ?hy (fun K hK => ?_); (case hy => rfl); go_simp; refine hK _ _ ?_; clear hK K) | (refine q_pure_y rfl ?hy (fun K hK => ?_); (case hy => rfl); go_simp; refine hK _ _ ?_; clear hK K)
              first | (refine q_pure_x rfl ?hy (fun K hK => ?_); (case hy => rfl); go_simp; refine hK _ _ ?_; clear hK K) | (refine q_pure_u rfl ?hy (fun K hK => ?_); (case hy => rfl); go_simp; refine hK _ _ ?_; clear hK K) | (refine q_pure_y rfl ?hy (fun K hK => ?_); (case hy => rfl); go_simp; refine hK _ _ ?_; clear hK K)
              first | (refine q_pure_x rfl ?hy (fun K hK => ?_); (case hy => rfl); go_simp; refine hK _ _ ?_; clear hK K) | (refine q_pure_u rfl ?hy (fun K hK => ?_); (case hy => rfl); go_simp; refine hK _ _ ?_; clear hK K) | (refine q_pure_y rfl ?hy (fun K hK => ?_); (case hy => rfl); go_simp; refine hK _ _ ?_; clear hK K)
              first | (refine q_pure_x rfl ?hy (fun K hK => ?_); (case hy => rfl); go_simp; refine hK _ _ ?_; clear hK K) | (refine q_pure_u rfl ?hy (fun K hK => ?_); (case hy => rfl); go_simp; refine hK _ _ ?_; clear hK K) | (refine q_pure_y rfl ?hy (fun K hK => ?_); (case hy => rfl); go_simp; refine hK _ _ ?_; clear hK K)
              first | (refine q_pure_x rfl ?hy (fun K hK => ?_); (case hy => rfl); go_simp; refine hK _ _ ?_; clear hK K) | (refine q_pure_u rfl ?hy (fun K hK => ?_); (case hy => rfl); go_simp; refine hK _ _ ?_; clear hK K) | (refine q_pure_y rfl ?hy (fun K hK => ?_); (case hy => rfl); go_simp; refine hK _ _ ?_; clear hK K)
              first | (refine q_read_x rfl ?hy (fun K hK => ?_); (case hy => rfl); go_simp; refine hK _ _ ?_; clear hK K) | (refine q_read_u rfl ?hy (fun K hK => ?_); (case hy => rfl); go_simp; refine hK _ _ ?_; clear hK K) | (refine q_read_y rfl ?hy (fun K hK => ?_); (case hy => rfl); go_simp; refine hK _ _ ?_; clear hK K)
              first | (refine q_read_x rfl ?hy (fun K hK => ?_); (case hy => rfl); go_simp; refine hK _ _ ?_; clear hK K) | (refine q_read_u rfl ?hy (fun K hK => ?_); (case hy => rfl); go_simp; refine hK _ _ ?_; clear hK K) | (refine q_read_y rfl ?hy (fun K hK => ?_); (case hy => rfl); go_simp; refine hK _ _ ?_; clear hK K)
              first | (refine q_write_x rfl ?hy (fun K hK => ?_); (case hy => rfl); go_simp; refine hK _ _ ?_; clear hK K) | (refine q_write_u rfl ?hy (fun K hK => ?_); (case hy => rfl); go_simp; refine hK _ _ ?_; clear hK K) | (refine q_write_y rfl ?hy (fun K hK => ?_); (case hy => rfl); go_simp; intro nw; refine ((eless_any y x _ _ _).no HN.out).mono ?_; rintro e w4 ⟨rfl, hb4⟩; obtain ⟨w4, rfl⟩ : ∃ w5, w4 = World.drewN w5 0 := ⟨w4, rfl⟩; have HB4 : Hid (Below w.heap.size w w4) := Lib.hid ((below_drewN (HB.out.trans (HB3.out.mono hsz)) _).trans (hb4.mono (by have h1 := HB3.out.size; show w.heap.size ≤ w3.heap.size; omega))); clear hb4; refine ⟨_, rfl, _, ⟨_, rfl⟩, hK _ _ ?_⟩; clear hK K)
              first | (refine q_pure_x rfl ?hy (fun K hK => ?_); (case hy => rfl); go_simp; refine hK _ _ ?_; clear hK K) | (refine q_pure_u rfl ?hy (fun K hK => ?_); (case hy => rfl); go_simp; refine hK _ _ ?_; clear hK K) | (refine q_pure_y rfl ?hy (fun K hK => ?_); (case hy => rfl); go_simp; refine hK _ _ ?_; clear hK K)
              first | (refine q_pure_x rfl ?hy (fun K hK => ?_); (case hy => rfl); go_simp; refine hK _ _ ?_; clear hK K) | (refine q_pure_u rfl ?hy (fun K hK => ?_); (case hy => rfl); go_simp; refine hK _ _ ?_; clear hK K) | (refine q_pure_y rfl ?hy (fun K hK => ?_); (case hy => rfl); go_simp; refine hK _ _ ?_; clear hK K)
              (refine q_pure_n rfl (fun K hK => ?_); go_simp; refine hK _ _ ?_; clear hK K)
              refine q_nil ?_
              intro nq
              go_wp2_with fail
              go_ret
              refine ⟨?_, below_drewN HB4.out _⟩
              rw [pb_false (fun h => by
                have := (h.2 k hkl).2 hk0
                rw [← HX.out, ← HY.out] at this
                exact HN.out this)]
              rfl
            · have HN := Lib.hid (Classical.not_not.1 ha)
              clear ha
              refine wp_region_q [0,1,2,0,0,0,0,0,0,0,0,0,0,1,1,2,0,0,0] (by kernel_rfl) (by kernel_rfl) ?_
              (refine q_pure_n rfl (fun K hK => ?_); go_simp; refine hK _ _ ?_; clear hK K)
              (refine q_read_n rfl (fun K hK => ?_); go_simp; refine hK _ _ ?_; clear hK K)
              (refine q_write_n rfl (fun K hK => ?_); go_simp; intro nw; refine ((HMAY.out _ (below_drewN (HB.out.alloc hsz _) _) (by show w.heap.size ≤ (wr.alloc _).heap.size; simp; omega)).yes HMX.out).mono ?_; rintro e w3 ⟨rfl, hb3⟩; obtain ⟨hbb, hbo⟩ := box_below hb3; clear hb3; obtain ⟨w3, rfl⟩ : ∃ w5, w3 = World.drewN w5 0 := ⟨w3, rfl⟩; have HB3 : Hid (Below wr.heap.size wr w3) := Lib.hid hbb; have hbo : w3.heap[wr.heap.size]? = _ := hbo; have hx3 : w3.cell? ⟨wr.heap.size, 0, none⟩ = some (.int .u64 (x.ms : Int)) := (by rw [Lib.cell_of_heap hbo]; rfl); have hx4 : w3.cell? ⟨wr.heap.size, 1, none⟩ = some (.int .u64 (x.seq : Int)) := (by rw [Lib.cell_of_heap hbo]; rfl); have hx5 : w3.cell? ⟨wr.heap.size, 2, none⟩ = some (.slice pA xn pC) := (by rw [Lib.cell_of_heap hbo]; rfl); clear hbb hbo; have hy3 : w3.cell? ⟨r, o + kp * 3, none⟩ = some (.int .u64 (y.ms : Int)) := ((HB.out.trans (HB3.out.mono hsz)).cell (p := ⟨r, _, none⟩) hr).trans hcp; have hy4 : w3.cell? ⟨r, o + kp * 3 + 1, none⟩ = some (.int .u64 (y.seq : Int)) := ((HB.out.trans (HB3.out.mono hsz)).cell (p := ⟨r, _, none⟩) hr).trans hcq; have hy5 : w3.cell? ⟨r, o + kp * 3 + 2, none⟩ = some (.slice qA yn qC) := ((HB.out.trans (HB3.out.mono hsz)).cell (p := ⟨r, _, none⟩) hr).trans hcr; refine ⟨_, rfl, _, ⟨_, rfl⟩, hK _ _ ?_⟩; clear hK K)
              (refine q_pure_n rfl (fun K hK => ?_); go_simp; refine hK _ _ ?_; clear hK K)
              (refine q_pure_n rfl (fun K hK => ?_); go_simp; refine hK _ _ ?_; clear hK K)
              first | (refine q_pure_x rfl ?hy (fun K hK => ?_); (case hy => rfl); go_simp; refine hK _ _ ?_; clear hK K) | (refine q_pure_u rfl ?hy (fun K hK => ?_); (case hy => rfl); go_simp; refine hK _ _ ?_; clear hK K) | (refine q_pure_y rfl ?hy (fun K hK => ?_); (case hy => rfl); go_simp; refine hK _ _ ?_; clear hK K)
              first | (refine q_pure_x rfl ?hy (fun K hK => ?_); (case hy => rfl); go_simp; refine hK _ _ ?_; clear hK K) | (refine q_pure_u rfl ?hy (fun K hK => ?_); (case hy => rfl); go_simp; refine hK _ _ ?_; clear hK K) | (refine q_pure_y rfl ?hy (fun K hK => ?_); (case hy => rfl); go_simp; refine hK _ _ ?_; clear hK K)
              first | (refine q_pure_x rfl ?hy (fun K hK => ?_); (case hy => rfl); go_simp; refine hK _ _ ?_; clear hK K) | (refine q_pure_u rfl ?hy (fun K hK => ?_); (case hy => rfl); go_simp; refine hK _ _ ?_; clear hK K) | (refine q_pure_y rfl ?hy (fun K hK => ?_); (case hy => rfl); go_simp; refine hK _ _ ?_; clear hK K)
              first | (refine q_pure_x rfl ?hy (fun K hK => ?_); (case hy => rfl); go_simp; refine hK _ _ ?_; clear hK K) | (refine q_pure_u rfl ?hy (fun K hK => ?_); (case hy => rfl); go_simp; refine hK _ _ ?_; clear hK K) | (refine q_pure_y rfl ?hy (fun K hK => ?_); (case hy => rfl); go_simp; refine hK _ _ ?_; clear hK K)
              first | (refine q_pure_x rfl ?hy (fun K hK => ?_); (case hy => rfl); go_simp; refine hK _ _ ?_; clear hK K) | (refine q_pure_u rfl ?hy (fun K hK => ?_); (case hy => rfl); go_simp; refine hK _ _ ?_; clear hK K) | (refine q_pure_y rfl ?hy (fun K hK => ?_); (case hy => rfl); go_simp; refine hK _ _ ?_; clear hK K)
              first | (refine q_pure_x rfl ?hy (fun K hK => ?_); (case hy => rfl); go_simp; refine hK _ _ ?_; clear hK K) | (refine q_pure_u rfl ?hy (fun K hK => ?_); (case hy => rfl); go_simp; refine hK _ _ ?_; clear hK K) | (refine q_pure_y rfl ?hy (fun K hK => ?_); (case hy => rfl); go_simp; refine hK _ _ ?_; clear hK K)
              first | (refine q_pure_x rfl ?hy (fun K hK => ?_); (case hy => rfl); go_simp; refine hK _ _ ?_; clear hK K) | (refine q_pure_u rfl ?hy (fun K hK => ?_); (case hy => rfl); go_simp; refine hK _ _ ?_; clear hK K) | (refine q_pure_y rfl ?hy (fun K hK => ?_); (case hy => rfl); go_simp; refine hK _ _ ?_; clear hK K)
              first | (refine q_pure_x rfl ?hy (fun K hK => ?_); (case hy => rfl); go_simp; refine hK _ _ ?_; clear hK K) | (refine q_pure_u rfl ?hy (fun K hK => ?_); (case hy => rfl); go_simp; refine hK _ _ ?_; clear hK K) | (refine q_pure_y rfl ?hy (fun K hK => ?_); (case hy => rfl); go_simp; refine hK _ _ ?_; clear hK K)
              first | (refine q_read_x rfl ?hy (fun K hK => ?_); (case hy => rfl); go_simp; refine hK _ _ ?_; clear hK K) | (refine q_read_u rfl ?hy (fun K hK => ?_); (case hy => rfl); go_simp; refine hK _ _ ?_; clear hK K) | (refine q_read_y rfl ?hy (fun K hK => ?_); (case hy => rfl); go_simp; refine hK _ _ ?_; clear hK K)
              first | (refine q_read_x rfl ?hy (fun K hK => ?_); (case hy => rfl); go_simp; refine hK _ _ ?_; clear hK K) | (refine q_read_u rfl ?hy (fun K hK => ?_); (case hy => rfl); go_simp; refine hK _ _ ?_; clear hK K) | (refine q_read_y rfl ?hy (fun K hK => ?_); (case hy => rfl); go_simp; refine hK _ _ ?_; clear hK K)
              first | (refine q_write_x rfl ?hy (fun K hK => ?_); (case hy => rfl); go_simp; refine hK _ _ ?_; clear hK K) | (refine q_write_u rfl ?hy (fun K hK => ?_); (case hy => rfl); go_simp; refine hK _ _ ?_; clear hK K) | (refine q_write_y rfl ?hy (fun K hK => ?_); (case hy => rfl); go_simp; intro nw; refine ((eless_any y x _ _ _).yes HN.out).mono ?_; rintro e w4 ⟨rfl, hb4⟩; obtain ⟨w4, rfl⟩ : ∃ w5, w4 = World.drewN w5 0 := ⟨w4, rfl⟩; have HB4 : Hid (Below w.heap.size w w4) := Lib.hid ((below_drewN (HB.out.trans (HB3.out.mono hsz)) _).trans (hb4.mono (by have h1 := HB3.out.size; show w.heap.size ≤ w3.heap.size; omega))); clear hb4; refine ⟨_, rfl, _, ⟨_, rfl⟩, hK _ _ ?_⟩; clear hK K)
              first | (refine q_pure_x rfl ?hy (fun K hK => ?_); (case hy => rfl); go_simp; refine hK _ _ ?_; clear hK K) | (refine q_pure_u rfl ?hy (fun K hK => ?_); (case hy => rfl); go_simp; refine hK _ _ ?_; clear hK K) | (refine q_pure_y rfl ?hy (fun K hK => ?_); (case hy => rfl); go_simp; refine hK _ _ ?_; clear hK K)
              first | (refine q_pure_x rfl ?hy (fun K hK => ?_); (case hy => rfl); go_simp; refine hK _ _ ?_; clear hK K) | (refine q_pure_u rfl ?hy (fun K hK => ?_); (case hy => rfl); go_simp; refine hK _ _ ?_; clear hK K) | (refine q_pure_y rfl ?hy (fun K hK => ?_); (case hy => rfl); go_simp; refine hK _ _ ?_; clear hK K)
              (refine q_pure_n rfl (fun K hK => ?_); go_simp; refine hK _ _ ?_; clear hK K)
              refine q_nil ?_
              intro nq
              go_wp2_with fail
              go_roundw
              case rel => exact ⟨k + 1, by omega, by go_num, Lib.hid (upto_succ HU.out hkl (by rw [← HX.out]; exact HMX.out) (fun _ => by rw [← HX.out, ← HY.out]; exact HN.out)), Lib.hid (below_drewN HB4.out _)⟩
              case measure => simp [intOf]; omega
          · have hk0' : ¬ (0 : Int) < (k : Int) := by omega
            refine wp_region_q [0,1,2,0,0,0,0,0,0,0,0,0,0,1,1,2,0,0,0] (by kernel_rfl) (by kernel_rfl) ?_
            (refine q_pure_n rfl (fun K hK => ?_); go_simp; refine hK _ _ ?_; clear hK K)
            (refine q_read_n rfl (fun K hK => ?_); go_simp; refine hK _ _ ?_; clear hK K)
            (refine q_write_n rfl (fun K hK => ?_); go_simp; intro nw; refine ((HMAY.out _ (below_drewN (HB.out.alloc hsz _) _) (by show w.heap.size ≤ (wr.alloc _).heap.size; simp; omega)).yes HMX.out).mono ?_; rintro e w3 ⟨rfl, hb3⟩; obtain ⟨hbb, hbo⟩ := box_below hb3; clear hb3; obtain ⟨w3, rfl⟩ : ∃ w5, w3 = World.drewN w5 0 := ⟨w3, rfl⟩; have HB3 : Hid (Below wr.heap.size wr w3) := Lib.hid hbb; have hbo : w3.heap[wr.heap.size]? = _ := hbo; have hx3 : w3.cell? ⟨wr.heap.size, 0, none⟩ = some (.int .u64 (x.ms : Int)) := (by rw [Lib.cell_of_heap hbo]; rfl); have hx4 : w3.cell? ⟨wr.heap.size, 1, none⟩ = some (.int .u64 (x.seq : Int)) := (by rw [Lib.cell_of_heap hbo]; rfl); have hx5 : w3.cell? ⟨wr.heap.size, 2, none⟩ = some (.slice pA xn pC) := (by rw [Lib.cell_of_heap hbo]; rfl); clear hbb hbo; refine ⟨_, rfl, _, ⟨_, rfl⟩, hK _ _ ?_⟩; clear hK K)
            (refine q_pure_n rfl (fun K hK => ?_); go_simp; refine hK _ _ ?_; clear hK K)
            (refine q_pure_n rfl (fun K hK => ?_); go_simp; refine hK _ _ ?_; clear hK K)
            first | (refine q_pure_x rfl ?hy (fun K hK => ?_); (case hy => rfl); go_simp; refine hK _ _ ?_; clear hK K) | (refine q_pure_u rfl ?hy (fun K hK => ?_); (case hy => rfl); go_simp; refine hK _ _ ?_; clear hK K) | (refine q_pure_y rfl ?hy (fun K hK => ?_); (case hy => rfl); go_simp; refine hK _ _ ?_; clear hK K)
            first | (refine q_pure_x rfl ?hy (fun K hK => ?_); (case hy => rfl); go_simp; refine hK _ _ ?_; clear hK K) | (refine q_pure_u rfl ?hy (fun K hK => ?_); (case hy => rfl); go_simp; refine hK _ _ ?_; clear hK K) | (refine q_pure_y rfl ?hy (fun K hK => ?_); (case hy => rfl); go_simp; refine hK _ _ ?_; clear hK K)
            first | (refine q_pure_x rfl ?hy (fun K hK => ?_); (case hy => rfl); go_simp; refine hK _ _ ?_; clear hK K) | (refine q_pure_u rfl ?hy (fun K hK => ?_); (case hy => rfl); go_simp; refine hK _ _ ?_; clear hK K) | (refine q_pure_y rfl ?hy (fun K hK => ?_); (case hy => rfl); go_simp; refine hK _ _ ?_; clear hK K)
            first | (refine q_pure_x rfl ?hy (fun K hK => ?_); (case hy => rfl); go_simp; refine hK _ _ ?_; clear hK K) | (refine q_pure_u rfl ?hy (fun K hK => ?_); (case hy => rfl); go_simp; refine hK _ _ ?_; clear hK K) | (refine q_pure_y rfl ?hy (fun K hK => ?_); (case hy => rfl); go_simp; refine hK _ _ ?_; clear hK K)
            first | (refine q_pure_x rfl ?hy (fun K hK => ?_); (case hy => rfl); go_simp; refine hK _ _ ?_; clear hK K) | (refine q_pure_u rfl ?hy (fun K hK => ?_); (case hy => rfl); go_simp; refine hK _ _ ?_; clear hK K) | (refine q_pure_y rfl ?hy (fun K hK => ?_); (case hy => rfl); go_simp; refine hK _ _ ?_; clear hK K)
            first | (refine q_pure_x rfl ?hy (fun K hK => ?_); (case hy => rfl); go_simp; refine hK _ _ ?_; clear hK K) | (refine q_pure_u rfl ?hy (fun K hK => ?_); (case hy => rfl); go_simp; refine hK _ _ ?_; clear hK K) | (refine q_pure_y rfl ?hy (fun K hK => ?_); (case hy => rfl); go_simp; refine hK _ _ ?_; clear hK K)
            first | (refine q_pure_x rfl ?hy (fun K hK => ?_); (case hy => rfl); go_simp; refine hK _ _ ?_; clear hK K) | (refine q_pure_u rfl ?hy (fun K hK => ?_); (case hy => rfl); go_simp; refine hK _ _ ?_; clear hK K) | (refine q_pure_y rfl ?hy (fun K hK => ?_); (case hy => rfl); go_simp; refine hK _ _ ?_; clear hK K)
            first | (refine q_pure_x rfl ?hy (fun K hK => ?_); (case hy => rfl); go_simp; refine hK _ _ ?_; clear hK K) | (refine q_pure_u rfl ?hy (fun K hK => ?_); (case hy => rfl); go_simp; refine hK _ _ ?_; clear hK K) | (refine q_pure_y rfl ?hy (fun K hK => ?_); (case hy => rfl); go_simp; refine hK _ _ ?_; clear hK K)
            first | (refine q_read_x rfl ?hy (fun K hK => ?_); (case hy => rfl); go_simp; refine hK _ _ ?_; clear hK K) | (refine q_read_u rfl ?hy (fun K hK => ?_); (case hy => rfl); go_simp; refine hK _ _ ?_; clear hK K) | (refine q_read_y rfl ?hy (fun K hK => ?_); (case hy => rfl); go_simp; refine hK _ _ ?_; clear hK K)
            first | (refine q_read_x rfl ?hy (fun K hK => ?_); (case hy => rfl); go_simp; refine hK _ _ ?_; clear hK K) | (refine q_read_u rfl ?hy (fun K hK => ?_); (case hy => rfl); go_simp; refine hK _ _ ?_; clear hK K) | (refine q_read_y rfl ?hy (fun K hK => ?_); (case hy => rfl); go_simp; refine hK _ _ ?_; clear hK K)
            first | (refine q_write_x rfl ?hy (fun K hK => ?_); (case hy => rfl); go_simp; refine hK _ _ ?_; clear hK K) | (refine q_write_u rfl ?hy (fun K hK => ?_); (case hy => rfl); go_simp; refine hK _ _ ?_; clear hK K) | (refine q_write_y rfl ?hy (fun K hK => ?_); (case hy => rfl); go_simp; intro nw; fail; refine ⟨_, rfl, _, ⟨_, rfl⟩, hK _ _ ?_⟩; clear hK K)
            first | (refine q_pure_x rfl ?hy (fun K hK => ?_); (case hy => rfl); go_simp; refine hK _ _ ?_; clear hK K) | (refine q_pure_u rfl ?hy (fun K hK => ?_); (case hy => rfl); go_simp; refine hK _ _ ?_; clear hK K) | (refine q_pure_y rfl ?hy (fun K hK => ?_); (case hy => rfl); go_simp; refine hK _ _ ?_; clear hK K)
            first | (refine q_pure_x rfl ?hy (fun K hK => ?_); (case hy => rfl); go_simp; refine hK _ _ ?_; clear hK K) | (refine q_pure_u rfl ?hy (fun K hK => ?_); (case hy => rfl); go_simp; refine hK _ _ ?_; clear hK K) | (refine q_pure_y rfl ?hy (fun K hK => ?_); (case hy => rfl); go_simp; refine hK _ _ ?_; clear hK K)
            (refine q_pure_n rfl (fun K hK => ?_); go_simp; refine hK _ _ ?_; clear hK K)
            refine q_nil ?_
            intro nq
            go_wp2_with fail
            go_roundw
            case rel => exact ⟨k + 1, by omega, by go_num, Lib.hid (upto_succ HU.out hkl (by rw [← HX.out]; exact HMX.out) (fun h => absurd h hk0)), Lib.hid (below_drewN (HB.out.trans (HB3.out.mono hsz)) _)⟩
            case measure => simp [intOf]; omega
      · have hlt' : ¬ (k : Int) < (L : Int) := by omega
        have hkL : k = l.length := by have := HL.out; omega
        have HK := Lib.hid hkL
        clear hkL
        go_wp2_with fail
        go_ret
        refine ⟨?_, HB.out⟩
        have hu := HU.out
        rw [HK.out] at hu
        rw [pb_true (ris_of_upto (by have := HL.out; omega) hu)]
        rfl
end Go.Proofs.YtpnmhldaaaemeaaGreat.Snp
/- A map with texts for keys, whatever its values, known entry by entry: looked up, written, deleted. Over any program. -/
namespace Go.Proofs.YtpnmhldaaaemeaaGreat.Mps
open Go Go.MapKept
section
variable {P : Program} {w : World} {M : Nat} {t k e : TypeId} {ps : List (ByteArray × Value)}

/-- block M is a map of these entries, in the order in which they came -/
def MapAt (w : World) (M : Nat) (ps : List (ByteArray × Value)) : Prop :=
  ∃ es clock, w.heap[M]? = some (.map es clock) ∧ es.toList.map (fun x => (x.key, x.val)) = ps.map (fun p => (Value.string p.1, p.2)) ∧ Stamped es clock
theorem MapAt.lt (h : MapAt w M ps) : M < w.heap.size := by
  obtain ⟨es, clock, hb, _, _⟩ := h
  exact (Array.getElem?_eq_some_iff.1 hb).1
theorem MapAt.same {w' : World} (h : MapAt w M ps) (hw : w'.heap[M]? = w.heap[M]?) : MapAt w' M ps := by
  obtain ⟨es, clock, hb, he, hS⟩ := h
  exact ⟨es, clock, hw.trans hb, he, hS⟩
/-- the first entry of a name -/
def seek (nm : ByteArray) : List (ByteArray × Value) → Nat → Option (Nat × Value)
  | [], _ => none
  | p :: r, i => if (nm == p.1) = true then some (i, p.2) else seek nm r (i + 1)
theorem find_seek (nm : ByteArray) : ∀ (l : List MapEntry) (ps : List (ByteArray × Value)) (i : Nat), l.map (fun x => (x.key, x.val)) = ps.map (fun p => (Value.string p.1, p.2)) → Instr.findNow .string (.string nm) l i = some (seek nm ps i)
  | [], [], _, _ => rfl
  | [], _ :: _, _, h => by simp at h
  | _ :: _, [], _, h => by simp at h
  | x :: l, p :: ps, i, h => by
    simp only [List.map_cons, List.cons.injEq, Prod.mk.injEq] at h
    obtain ⟨⟨h1, h2⟩, h3⟩ := h
    unfold Instr.findNow seek
    rw [h1, h2]
    cases hq : (nm == p.1) with
    | true => simp [Instr.sameNow, hq]
    | false => simp [Instr.sameNow, hq, find_seek nm l ps (i + 1) h3]
theorem run_seek (hk : P.underlying k = some .string) {es : Array MapEntry} (he : es.toList.map (fun x => (x.key, x.val)) = ps.map (fun p => (Value.string p.1, p.2))) (nm : ByteArray) : (Instr.findKey k (.string nm) es.toList).run P w = .ok (seek nm ps 0) w :=
  run_findKey hk (find_seek nm es.toList ps 0 he)
theorem run_chk (hk : P.underlying k = some .string) (b : Bool) (nm : ByteArray) : (Instr.checkKey b 10000 k (.string nm)).run P w = .ok () w := run_checkKey (d := .string) (k := .string nm) hk (show IsKey .string (.string nm) from trivial) b 9999

/-- 'v, ok := m[nm]' -/
theorem look_ok (ht : P.underlying t = some (.map k e)) (hk : P.underlying k = some .string) {z : Value} (hz : (zeroValue e).run P w = .ok z w) (h : MapAt w M ps) (nm : ByteArray) :
    (Instr.lookup t (.map (some M)) (.string nm) true).run P w = .ok (.tuple #[((seek nm ps 0).map (·.2)).getD z, .bool (seek nm ps 0).isSome]) w := by
  obtain ⟨es, clock, hb, he, _⟩ := h
  have hs := run_seek (w := w) hk he nm
  cases hq : seek nm ps 0 with
  | none =>
    rw [hq] at hs
    simp [Instr.lookup, run_underlying ht, MapKept.run_getObj_map hb, run_chk hk, hs, hz, Result.andThen]
  | some x =>
    rw [hq] at hs
    simp [Instr.lookup, run_underlying ht, MapKept.run_getObj_map hb, run_chk hk, hs, Result.andThen]
/-- 'm[nm]' -/
theorem look (ht : P.underlying t = some (.map k e)) (hk : P.underlying k = some .string) {z : Value} (hz : (zeroValue e).run P w = .ok z w) (h : MapAt w M ps) (nm : ByteArray) :
    (Instr.lookup t (.map (some M)) (.string nm) false).run P w = .ok (((seek nm ps 0).map (·.2)).getD z) w := by
  obtain ⟨es, clock, hb, he, _⟩ := h
  have hs := run_seek (w := w) hk he nm
  cases hq : seek nm ps 0 with
  | none =>
    rw [hq] at hs
    simp [Instr.lookup, run_underlying ht, MapKept.run_getObj_map hb, run_chk hk, hs, hz, Result.andThen]
  | some x =>
    rw [hq] at hs
    simp [Instr.lookup, run_underlying ht, MapKept.run_getObj_map hb, run_chk hk, hs, Result.andThen]
/-- only block M has turned -/
def OnlyMap (w w' : World) (M : Nat) : Prop := w'.os = w.os ∧ w'.tape = w.tape ∧ w'.output = w.output ∧ w'.heap.size = w.heap.size ∧ ∀ r, r ≠ M → w'.heap[r]? = w.heap[r]?
theorem OnlyMap.grown {w' : World} (h : OnlyMap w w' M) : w.grownBy w' (some M) := ⟨h.1, h.2.1, h.2.2.1, by rw [h.2.2.2.1]; exact Nat.le_refl _, fun r _ hr => h.2.2.2.2 r (fun e => hr (by rw [e]))⟩
theorem set_only {o o' : Obj} (hb : w.heap[M]? = some o) : OnlyMap w { w with heap := w.heap.setIfInBounds M o' } M := ⟨rfl, rfl, rfl, by simp, fun r hr => (heap_set hb).2 r hr⟩
theorem seek_mem (nm : ByteArray) : ∀ (ps : List (ByteArray × Value)) (i : Nat), seek nm ps i = none → ∀ p ∈ ps, p.1 ≠ nm
  | [], _, _, _, hp => nomatch hp
  | q :: r, i, h, p, hp => by
    unfold seek at h
    cases hq : (nm == q.1) with
    | true => rw [hq] at h; cases h
    | false =>
      rw [hq] at h
      rcases List.mem_cons.1 hp with rfl | hp
      · intro e
        rw [e, (MapKept.bytes_beq _ _).2 rfl] at hq
        cases hq
      · exact seek_mem nm r (i + 1) h p hp
theorem seek_ne {es : Array MapEntry} (he : es.toList.map (fun x => (x.key, x.val)) = ps.map (fun p => (Value.string p.1, p.2))) {nm : ByteArray} (hn : seek nm ps 0 = none) {x : MapEntry} (hx : x ∈ es.toList) : x.key ≠ .string nm := by
  have hm : (x.key, x.val) ∈ es.toList.map (fun x => (x.key, x.val)) := List.mem_map.2 ⟨x, hx, rfl⟩
  rw [he] at hm
  obtain ⟨p, hp, e⟩ := List.mem_map.1 hm
  injection e with e1 e2
  intro e3
  rw [e3] at e1
  injection e1 with e4
  exact seek_mem nm ps 0 hn p hp e4
/-- 'm[nm] = v', nm new -/
theorem put_new (ht : P.underlying t = some (.map k e)) (hk : P.underlying k = some .string) (h : MapAt w M ps) (nm : ByteArray) (v : Value) (hn : seek nm ps 0 = none) :
    ∃ w', (Instr.mapUpdate t (.map (some M)) (.string nm) v).run P w = .ok () w' ∧ MapAt w' M (ps ++ [(nm, v)]) ∧ OnlyMap w w' M := by
  obtain ⟨es, clock, hb, he, hS⟩ := h
  have hs := run_seek (w := w) hk he nm
  rw [hn] at hs
  refine ⟨{ w with heap := w.heap.setIfInBounds M (.map (es.push { key := .string nm, val := v, born := clock }) (clock + 1)) }, ?_, ⟨_, _, (heap_set hb).1, ?_, stamped_push hS (fun x hx => seek_ne he hn hx)⟩, set_only hb⟩
  · simp [Instr.mapUpdate, run_underlying ht, MapKept.run_getObj_map hb, run_chk hk, hs, run_setObj_map _ hb, Result.andThen]
  · simp [he]
/-- the entries without one -/
def without (nm : ByteArray) : List (ByteArray × Value) → List (ByteArray × Value)
  | [] => []
  | p :: r => if (nm == p.1) = true then r else p :: without nm r
theorem erase_at : ∀ (l : List MapEntry) (ps : List (ByteArray × Value)) (i j : Nat) (v : Value) (nm : ByteArray), l.map (fun x => (x.key, x.val)) = ps.map (fun p => (Value.string p.1, p.2)) → seek nm ps i = some (i + j, v) →
    (l.eraseIdx j).map (fun x => (x.key, x.val)) = (without nm ps).map (fun p => (Value.string p.1, p.2))
  | [], [], _, _, _, _, _, h => by cases h
  | [], _ :: _, _, _, _, _, h, _ => by simp at h
  | _ :: _, [], _, _, _, _, h, _ => by simp at h
  | x :: l, p :: ps, i, j, v, nm, h, hs => by
    simp only [List.map_cons, List.cons.injEq] at h
    unfold seek at hs
    unfold without
    cases hq : (nm == p.1) with
    | true =>
      rw [hq] at hs
      simp only [if_true, Option.some.injEq, Prod.mk.injEq] at hs
      obtain rfl : j = 0 := by omega
      simp [h.2]
    | false =>
      rw [hq] at hs
      simp only [Bool.false_eq_true, if_false] at hs
      cases j with
      | zero =>
        exfalso
        have hge : ∀ (ps : List (ByteArray × Value)) (i a : Nat) (v : Value), seek nm ps i = some (a, v) → i ≤ a := by
          intro ps
          induction ps with
          | nil => intro i a v h; cases h
          | cons p r ih =>
            intro i a v h
            unfold seek at h
            split at h
            · simp at h; omega
            · have := ih _ _ _ h; omega
        have := hge _ _ _ _ hs
        omega
      | succ j =>
        have := erase_at l ps (i + 1) j v nm h.2 (by rw [hs]; simp; omega)
        simp [List.eraseIdx, h.1, this]
/-- 'delete(m, nm)' -/
theorem del (ht : P.underlying t = some (.map k e)) (hk : P.underlying k = some .string) (h : MapAt w M ps) (nm : ByteArray) (ty : TypeId) {i : Nat} {v : Value} (hn : seek nm ps 0 = some (i, v)) :
    ∃ w', (Builtin.delete_ #[t, k] ty #[.map (some M), .string nm]).run P w = .ok (.tuple #[]) w' ∧ MapAt w' M (without nm ps) ∧ OnlyMap w w' M := by
  obtain ⟨es, clock, hb, he, hS⟩ := h
  have hs := run_seek (w := w) hk he nm
  rw [hn] at hs
  refine ⟨{ w with heap := w.heap.setIfInBounds M (.map (es.eraseIdxIfInBounds i) clock) }, ?_, ⟨_, _, (heap_set hb).1, ?_, stamped_erase hS i⟩, set_only hb⟩
  · simp [Builtin.delete_, run_underlying ht, MapKept.run_getObj_map hb, run_chk hk, hs, run_setObj_map _ hb, Result.andThen]
  · rw [← erase_at es.toList ps 0 i v nm he (by rw [hn]; simp)]
    simp
end
end Go.Proofs.YtpnmhldaaaemeaaGreat.Mps
/- Chapter 24: the map of the members that were seen; may a sorted set's member be. -/
namespace Go.Proofs.YtpnmhldaaaemeaaGreat.Mps
open Go Go.MapKept
section
variable {P : Program} {w : World} {M : Nat} {t k e : TypeId} {ps : List (ByteArray × Value)}
theorem seek_get (nm : ByteArray) : ∀ (ps : List (ByteArray × Value)) (i a : Nat) (v : Value), seek nm ps i = some (a, v) → ∃ j, a = i + j ∧ ps[j]? = some (nm, v)
  | [], _, _, _, h => by cases h
  | p :: r, i, a, v, h => by
    unfold seek at h
    cases hq : (nm == p.1) with
    | true =>
      rw [hq] at h
      simp only [if_true, Option.some.injEq, Prod.mk.injEq] at h
      have e := (MapKept.bytes_beq _ _).1 hq
      refine ⟨0, by omega, ?_⟩
      rw [← h.2, e]
      rfl
    | false =>
      rw [hq] at h
      simp only [Bool.false_eq_true, if_false] at h
      obtain ⟨j, h1, h2⟩ := seek_get nm r (i + 1) a v h
      exact ⟨j + 1, by omega, h2⟩
/-- 'm[nm] = v', nm there: only the map turns -/
theorem put_old (ht : P.underlying t = some (.map k e)) (hk : P.underlying k = some .string) (h : MapAt w M ps) (nm : ByteArray) (v : Value) {i : Nat} {v0 : Value} (hn : seek nm ps 0 = some (i, v0)) :
    ∃ w', (Instr.mapUpdate t (.map (some M)) (.string nm) v).run P w = .ok () w' ∧ OnlyMap w w' M := by
  obtain ⟨es, clock, hb, he, hS⟩ := h
  have hs := run_seek (w := w) hk he nm
  rw [hn] at hs
  obtain ⟨j, h1, h2⟩ := seek_get nm ps 0 i v0 hn
  have h3 : (es.toList.map (fun x => (x.key, x.val)))[i]? = some (Value.string nm, v0) := by
    rw [he, List.getElem?_map, show i = j by omega, h2]
    rfl
  rw [List.getElem?_map] at h3
  have h4 : ∃ x, es[i]? = some x ∧ x.key = .string nm := by
    rw [← Array.getElem?_toList]
    cases hq : es.toList[i]? with
    | none => rw [hq] at h3; cases h3
    | some x =>
      rw [hq] at h3
      simp only [Option.map_some, Option.some.injEq, Prod.mk.injEq] at h3
      exact ⟨x, rfl, h3.1⟩
  obtain ⟨x, h5, h6⟩ := h4
  have h7 : (Instr.keyThatStays (((es[i]?).map (·.key)).getD (.string nm)) (.string nm)).run P w = .ok (.string nm) w := by
    rw [h5]
    have hbb : (nm == nm) = true := (MapKept.bytes_beq _ _).2 rfl
    simp [Instr.keyThatStays, h6, Instr.sameBits, hbb]
  refine ⟨{ w with heap := w.heap.setIfInBounds M (.map (es.modify i fun e => { e with key := .string nm, val := v }) clock) }, ?_, set_only hb⟩
  simp only [Instr.mapUpdate, run_underlying ht, Sem.run_bind, Result.andThen, MapKept.run_getObj_map hb, run_chk hk, hs, h7, run_setObj_map _ hb]
end
end Go.Proofs.YtpnmhldaaaemeaaGreat.Mps
namespace Go.Proofs.YtpnmhldaaaemeaaGreat.Snp
open Go.RowKit Go.Proofs.YtpnmhldaaaemeaaGreat.Pin Go.Proofs.YtpnmhldaaaemeaaGreat.Mps

def ScP (m : Sc) : Prop := MayP m.1 ∧ FEq m.2 m.2 ∧ (¬ FEq m.2 0 ∨ m.2 < 9223372036854775808)
def SaheadP (a b : Sc) : Prop := FLt a.2 b.2 ∨ FEq a.2 b.2 ∧ LtS a.1 b.1
/-- the map of what was seen -/
def SeenAt (w : World) (M : Nat) (ns : List ByteArray) : Prop := MapAt w M (ns.map fun n => (n, .bool true))
theorem zero_bool (w : World) : (zeroValue 4).run Tryz.prog w = .ok (.bool false) w := by kernel_rfl
theorem seen_yes {nm : ByteArray} : ∀ {ns : List ByteArray} {i : Nat}, nm ∈ ns → ∃ j, seek nm (ns.map fun n => (n, Value.bool true)) i = some (j, .bool true)
  | n :: ns, i, h => by
    rw [List.map_cons]
    unfold seek
    cases hq : (nm == n) with
    | true => exact ⟨i, rfl⟩
    | false =>
      rcases List.mem_cons.1 h with e | h
      · rw [e, (MapKept.bytes_beq _ _).2 rfl] at hq
        cases hq
      · exact seen_yes h
theorem seen_no {nm : ByteArray} : ∀ {ns : List ByteArray} {i : Nat}, nm ∉ ns → seek nm (ns.map fun n => (n, Value.bool true)) i = none
  | [], _, _ => rfl
  | n :: ns, i, h => by
    rw [List.map_cons]
    unfold seek
    cases hq : (nm == n) with
    | true => exact absurd (by rw [(MapKept.bytes_beq _ _).1 hq]; simp) h
    | false => exact seen_no (fun hm => h (by simp [hm]))
theorem seen_look {w : World} {M : Nat} {ns : List ByteArray} (h : SeenAt w M ns) (nm : ByteArray) :
    (nm ∈ ns → (Instr.lookup 113 (.map (some M)) (.string nm) false).run Tryz.prog w = .ok (.bool true) w) ∧ (nm ∉ ns → (Instr.lookup 113 (.map (some M)) (.string nm) false).run Tryz.prog w = .ok (.bool false) w) := by
  have hl := Mps.look (w := w) (P := Tryz.prog) Tryz.underlying113 Tryz.underlying9 (zero_bool w) h nm
  refine ⟨fun hm => ?_, fun hm => ?_⟩
  · obtain ⟨j, hs⟩ := seen_yes (i := 0) hm
    rw [hs] at hl
    exact hl
  · rw [seen_no hm] at hl
    exact hl
theorem wpList_seen {ops : Array Oper} {rest : List Oper} {o : Oper} {a : Act} {Q : Exit → Act → World → Prop} (w : World) (hgd : o.guard = none) (m x v : Operand) (hop : o.op = Op.mapUpdate 113 m x v) (M : Nat) (ns : List ByteArray) (nm : ByteArray)
    (hm : a.eval m = .map (some M)) (hx : a.eval x = .string nm) (hv : a.eval v = .bool true) (h : SeenAt w M ns)
    (hK : ∀ w', (nm ∉ ns → SeenAt w' M (ns ++ [nm])) → OnlyMap w w' M → wpList Tryz.prog ops Q rest (a.put o.dst undef) w') : wpList Tryz.prog ops Q (o :: rest) a w := by
  refine wpList_plain hgd fun K' hK' => ?_
  by_cases hn : nm ∈ ns
  · obtain ⟨j, hs⟩ := seen_yes (i := 0) hn
    obtain ⟨w', hrun, r2⟩ := put_old (P := Tryz.prog) Tryz.underlying113 Tryz.underlying9 h nm (.bool true) hs
    unfold Oper.wp
    simp [execOp, hop, hm, hx, hv, hrun, Result.andThen]
    exact hK' _ _ (hK w' (fun h => absurd hn h) r2)
  · obtain ⟨w', hrun, r1, r2⟩ := put_new (P := Tryz.prog) Tryz.underlying113 Tryz.underlying9 h nm (.bool true) (seen_no hn)
    unfold Oper.wp
    simp [execOp, hop, hm, hx, hv, hrun, Result.andThen]
    exact hK' _ _ (hK w' (fun _ => by simpa [SeenAt] using r1) r2)
theorem grown_trans {a b c : World} {M : Nat} (h : a.grownBy b (some M)) (k : b.grownBy c (some M)) : a.grownBy c (some M) :=
  ⟨k.os.trans h.os, k.tape.trans h.tape, k.output.trans h.output, Nat.le_trans h.size k.size, fun i hi hne => (k.block i (Nat.lt_of_lt_of_le hi h.size) hne).trans (h.block i hi hne)⟩
theorem grown_below {a b : World} (M : Nat) (h : Below a.heap.size a b) : a.grownBy b (some M) := ⟨h.os, h.tape, h.output, h.size, fun i hi _ => h.block i hi⟩
theorem below_grown {a b : World} {B M : Nat} (h : a.grownBy b (some M)) (hB : B ≤ a.heap.size) (hM : B ≤ M) : Below B a b := ⟨h.os, h.tape, h.output, h.size, fun i hi => h.block i (by omega) (fun e => by injection e with e; omega)⟩
theorem grown_drewN {a b : World} {M : Nat} (h : a.grownBy b (some M)) (n : Nat) : a.grownBy (b.drewN n) (some M) := ⟨h.os, h.tape, h.output, h.size, h.block⟩
set_option maxHeartbeats 2000000 in
set_option maxRecDepth 100000 in
theorem scored1_any (m : Sc) (b M : Nat) (ns : List ByteArray) (w : World) (hx : m.2 < 18446744073709551616) (hb : w.heap[b]? = some (.cells #[.map (some M)] 113 (0, 0))) (hM : SeenAt w M ns) :
    Calls Tryz.prog 88 #[.agg #[.string m.1, .float .f64 m.2], .pointer (some ⟨b, 0, none⟩)] w fun e w' => e = .returned (.bool (pb (m.1 ∉ ns ∧ ScP m))) ∧ (m.1 ∉ ns → SeenAt w' M (ns ++ [m.1])) ∧ w.grownBy w' (some M) := by
  obtain ⟨nm, x⟩ := m
  have hbl : b < w.heap.size := (Array.getElem?_eq_some_iff.1 hb).1
  have hMl := hM.lt
  have hbM : b ≠ M := by
    intro e
    obtain ⟨es, clock, h1, _⟩ := hM
    rw [e, h1] at hb
    cases hb
  have HMA : Hid (SeenAt (w.alloc (.cells #[.string nm, .float .f64 x] 88)) M ns) := Lib.hid (MapAt.same hM (Lib.alloc_old w _ _ hMl))
  have hc : w.cell? ⟨b, 0, none⟩ = some (.map (some M)) := by rw [Lib.cell_of_heap hb]; rfl
  obtain ⟨ly, ln⟩ := seen_look HMA.out nm
  have HSG := Lib.hid (fun W => sig_any x W hx)
  have HNA := Lib.hid (fun W => nan_any x W)
  have HMY := Lib.hid (fun W => may_any nm W)
  have HBH := Lib.hid hb
  clear hx hb hM
  by_cases hin : nm ∈ ns
  · have hl := ly hin
    have HIN := Lib.hid hin
    clear ly ln hin
    go_enter Tryz.func88, Tryz.ntmps88
    go_wp2_with (at_mapUpdate; refine wpList_seen _ rfl _ _ _ rfl M ns nm rfl rfl rfl HMA.out ?_)
    intro w2 hs2 ho2
    have HS2 := Lib.hid hs2
    have HO2 := Lib.hid ho2
    clear hs2 ho2
    go_wp2_with fail
    go_ret
    exact ⟨ret_no (fun h => h.1 HIN.out), fun h => absurd HIN.out h, grown_trans (World.grownBy_alloc w _ _) HO2.out.grown⟩
  · have hl := ln hin
    have HIN := Lib.hid hin
    clear ly ln hin
    go_enter Tryz.func88, Tryz.ntmps88
    go_wp2_with (at_mapUpdate; refine wpList_seen _ rfl _ _ _ rfl M ns nm rfl rfl rfl HMA.out ?_)
    intro w2 hs2 ho2
    have HS2 := Lib.hid hs2
    have HO2 := Lib.hid ho2
    have hbo : w2.heap[w.heap.size]? = some (.cells #[.string nm, .float .f64 x] 88 (0, 0)) := (ho2.2.2.2.2 _ (by omega)).trans (heap_alloc_new w _)
    have c0 : w2.cell? ⟨w.heap.size, 0, none⟩ = some (.string nm) := by rw [Lib.cell_of_heap hbo]; rfl
    have c1 : w2.cell? ⟨w.heap.size, 1, none⟩ = some (.float .f64 x) := by rw [Lib.cell_of_heap hbo]; rfl
    clear hs2 ho2 hbo hc hl
    by_cases h1 : ¬ MayP nm
    · have q1 := pb_false h1
      have H1 := Lib.hid h1
      clear h1
      go_wp2_with fail
      refine (HMY.out _).mono ?_
      rintro e w' ⟨rfl, rfl⟩
      go_wp2_with fail
      go_ret
      exact ⟨ret_no (fun h => H1.out h.2.1), fun _ => HS2.out HIN.out, grown_trans (World.grownBy_alloc w _ _) HO2.out.grown⟩
    · have q1 := pb_true (Classical.not_not.1 h1)
      have H1 := Lib.hid (Classical.not_not.1 h1)
      clear h1
      by_cases h2 : ¬ FEq x x
      · have q2 := pb_true h2
        have H2 := Lib.hid h2
        clear h2
        go_wp2_with fail
        refine (HMY.out _).mono ?_
        rintro e w' ⟨rfl, rfl⟩
        go_wp2_with fail
        refine (HNA.out _).mono ?_
        rintro e w' ⟨rfl, rfl⟩
        go_wp2_with fail
        go_ret
        exact ⟨ret_no (fun h => H2.out h.2.2.1), fun _ => HS2.out HIN.out, grown_trans (World.grownBy_alloc w _ _) HO2.out.grown⟩
      · have q2 := pb_false h2
        have H2 := Lib.hid (Classical.not_not.1 h2)
        clear h2
        by_cases h3 : FEq x 0
        · have q3 : (FloatKind.f64.format.order x 0 != some Ordering.eq) = false := by unfold FEq at h3; simpa using h3
          have H3 := Lib.hid h3
          clear h3
          by_cases h4 : 9223372036854775808 ≤ x
          · have q4 := pb_true h4
            have H4 := Lib.hid h4
            clear h4
            go_wp2_with fail
            refine (HMY.out _).mono ?_
            rintro e w' ⟨rfl, rfl⟩
            go_wp2_with fail
            refine (HNA.out _).mono ?_
            rintro e w' ⟨rfl, rfl⟩
            go_wp2_with fail
            refine (HSG.out _).mono ?_
            rintro e w' ⟨rfl, rfl⟩
            go_wp2_with fail
            go_ret
            exact ⟨ret_no (fun h => by rcases h.2.2.2 with h | h; exact h H3.out; have := H4.out; omega), fun _ => HS2.out HIN.out, grown_trans (World.grownBy_alloc w _ _) HO2.out.grown⟩
          · have q4 := pb_false h4
            have H4 := Lib.hid h4
            clear h4
            go_wp2_with fail
            refine (HMY.out _).mono ?_
            rintro e w' ⟨rfl, rfl⟩
            go_wp2_with fail
            refine (HNA.out _).mono ?_
            rintro e w' ⟨rfl, rfl⟩
            go_wp2_with fail
            refine (HSG.out _).mono ?_
            rintro e w' ⟨rfl, rfl⟩
            go_wp2_with fail
            go_ret
            exact ⟨ret_yes ⟨HIN.out, H1.out, H2.out, .inr (by have := H4.out; show x < _; omega)⟩, fun _ => HS2.out HIN.out, grown_trans (World.grownBy_alloc w _ _) HO2.out.grown⟩
        · have q3 : (FloatKind.f64.format.order x 0 != some Ordering.eq) = true := by unfold FEq at h3; simpa using h3
          have H3 := Lib.hid h3
          clear h3
          go_wp2_with fail
          refine (HMY.out _).mono ?_
          rintro e w' ⟨rfl, rfl⟩
          go_wp2_with fail
          refine (HNA.out _).mono ?_
          rintro e w' ⟨rfl, rfl⟩
          go_wp2_with fail
          go_ret
          exact ⟨ret_yes ⟨HIN.out, H1.out, H2.out, .inl H3.out⟩, fun _ => HS2.out HIN.out, grown_trans (World.grownBy_alloc w _ _) HO2.out.grown⟩
end Go.Proofs.YtpnmhldaaaemeaaGreat.Snp
