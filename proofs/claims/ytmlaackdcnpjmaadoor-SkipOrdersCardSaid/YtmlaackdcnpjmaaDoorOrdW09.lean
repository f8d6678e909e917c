/- Chapter 09: SkipOrders walked. -/
import Derived.Test.YtmlaackdcnpjmaaDoorCutW09
import Derived.Test.YtmlaackdcnpjmaaDoorOrdP09
namespace Go.Proofs.YtmlaackdcnpjmaaDoor.Skp
open Go Go.RowKit Go.Proofs.YtmlaackdcnpjmaaDoor.Pin Go.Proofs.YtmlaackdcnpjmaaDoor.Flt
attribute [local go_sem high] run_store_F
set_option maxHeartbeats 4000000 in
set_option maxRecDepth 100000 in
theorem orders_any (seed : Nat) (h64 : seed < 2 ^ 64) (other : Nat) (o64 : other < 2 ^ 64) (l : List Sc) (v : Value) (w : World) (hl : Lw w l v) :
    Calls Tryd.prog 3 #[.int .u64 (seed : Int), .int .u64 (other : Int), v] w fun e w' => e = .returned (.bool true) ∧ Below w.heap.size w w' := by
  have HB0 := Lib.hid (Below.refl w.heap.size w)
  have HLW := Lib.hid hl
  have HAL := Lib.hid (fun W (hb : Below w.heap.size w W) => alive_any W (hl.below hb).tab)
  obtain ⟨A, c, rfl, _⟩ := id hl.at_
  obtain ⟨N, hN⟩ : ∃ N, N = l.length := ⟨_, rfl⟩
  have HN := Lib.hid hN
  rw [← hN] at HLW ⊢
  clear hl hN
  by_cases hbig : (300 : Int) < (N : Int)
  · go_enter Tryd.func3, Tryd.ntmps3
    go_wp2_with fail
    refine (HAL.out _ HB0.out).mono ?_
    rintro e w1 ⟨rfl, hb1⟩
    have HB1 := Lib.hid (HB0.out.trans (hb1.mono HB0.out.size))
    clear hb1
    go_wp2_with fail
    refine (HAL.out _ HB1.out).mono ?_
    rintro e w2 ⟨rfl, hb2⟩
    have HB2 := Lib.hid (HB1.out.trans (hb2.mono HB1.out.size))
    clear hb2
    go_wp2_with fail
    go_ret
    exact ⟨rfl, HB2.out⟩
  · go_enter Tryd.func3, Tryd.ntmps3
    go_wp2_with fail
    refine (HAL.out _ HB0.out).mono ?_
    rintro e w1 ⟨rfl, hb1⟩
    have HB1 := Lib.hid (HB0.out.trans (hb1.mono HB0.out.size))
    clear hb1
    go_wp2_with fail
    have HNS : Hid (l.length < 1099511627776) := Lib.hid (by have := HN.out; omega)
    have HLW' : Hid (Lw w l (.slice A l.length c)) := Lib.hid (by rw [← HN.out]; exact HLW.out)
    have HSZ := Lib.hid (size_any l (.slice A l.length c) w1 (HLW'.out.below HB1.out).at_ HNS.out)
    rw [← HN.out] at HSZ
    refine HSZ.out.mono ?_
    rintro e w2 ⟨⟨sz, rfl, hz0, hz1⟩, rfl⟩
    have HZ := Lib.hid (And.intro hz0 hz1)
    clear hz0 hz1
    go_wp2_with fail
    refine (beyond_one sz HZ.out.1 HZ.out.2 1 w1.heap.size _ (by rw [Lib.cell_of_heap (World.alloc_heap_new w1 _)]; rfl)).mono ?_
    rintro e w2 ⟨hbe, rfl⟩
    have HB2 : Hid (Below w.heap.size w (w1.alloc (.cells #[.int .i64 sz] 3))) := Lib.hid (HB1.out.alloc HB1.out.size _)
    have HFI := Lib.hid (fun W (hb : Below w.heap.size w W) => fill_any seed h64 l (.slice A l.length c) W (HLW'.out.below hb).at_ HLW'.out.bits (HLW'.out.below hb).tab HNS.out)
    rw [← HN.out] at HFI
    obtain ⟨be, rfl⟩ := hbe
    cases be with
    | true =>
      go_wp2_with fail
      refine (HAL.out _ HB2.out).mono ?_
      rintro e w3 ⟨rfl, hb2⟩
      have HB3 := Lib.hid (HB2.out.trans (hb2.mono HB2.out.size))
      clear hb2
      go_wp2_with fail
      go_ret
      exact ⟨rfl, HB3.out⟩
    | false =>
      go_wp2_with fail
      refine (HFI.out _ HB2.out).mono ?_
      rintro e w3 ⟨s, own, L, rfl, hfr⟩
      have hG3 : GrR (w1.alloc (.cells #[.int .i64 sz] 3)) s own L w3 := ⟨hfr.sk, hfr.new, hfr.old⟩
      have HLL : Hid (L.length ≤ N) := Lib.hid (by have := hfr.len; rw [HN.out]; exact this)
      have HHO : Hid (Holds L l) := Lib.hid (by have := hfr.holds; rwa [List.take_length] at this)
      have HB3 := Lib.hid (HB2.out.trans (hG3.old.mono HB2.out.size))
      have HG3 := Lib.hid hG3
      have HLT := Lib.hid (HLW'.out.below HB3.out)
      obtain ⟨i0, hi0, hz0, hz1, hz2⟩ := info_parts info_scoreds
      have HI := Lib.hid hi0
      have HZ0 := Lib.hid hz0
      have HZ1 := Lib.hid hz1
      have HZ2 := Lib.hid hz2
      have HN3 : Hid (N ≤ 300) := Lib.hid (by omega)
      clear hfr hG3 hi0 hz0 hz1 hz2 HSZ HFI HZ HAL HB0 HB1 HB2
      go_wp2_with fail
      go_loopw [8, 9] (fun out i wr => ∃ (k : Nat) (x : Int) (T : List Sc), Hid (k ≤ N ∧ x = (N : Int) - 1 - (k : Int) ∧ T = l.reverse.take k) ∧ i = .int .i64 x ∧ Hid (Acc 31 2 ElS w3.heap.size wr out T) ∧ Hid (Below w3.heap.size w3 wr)) (fun _ i _ => (intOf i + 1).toNat)
      case atStart => exact ⟨0, (N : Int) - 1, [], Lib.hid ⟨Nat.zero_le _, by omega, rfl⟩, by have := HN3.out; go_num, Lib.hid (acc_nil _), Lib.hid (Below.refl _ _)⟩
      case round =>
        obtain ⟨k, x, T, HX, rfl, HA, HBe⟩ := hrel
        by_cases hx0 : (0 : Int) ≤ x
        · obtain ⟨j, rfl⟩ : ∃ j : Nat, x = (j : Int) := ⟨x.toNat, by omega⟩
          obtain ⟨A1, c1, rfl⟩ := HA.out.slice
          have hjN : j < N := by have := HX.out; omega
          have hjl : j < l.length := by have := HN.out; omega
          obtain ⟨r, o, rfl, hr, hx1, hx2⟩ := HLT.out.at_.get j hjl
          obtain ⟨m, hm⟩ : ∃ m, m = l[j] := ⟨_, rfl⟩
          have HRS : Hid (T ++ [m] = l.reverse.take (k + 1)) := Lib.hid (by rw [hm, HX.out.2.2]; exact (rev_step hjl (by have := HN.out; have := HX.out; omega)).symm)
          rw [← hm] at hx1 hx2
          have x1 : wr.cell? ⟨r, o + j * 2, none⟩ = some (.string m.1) := (HBe.out.cell (p := ⟨r, _, none⟩) hr).trans hx1
          have x2 : wr.cell? ⟨r, o + j * 2 + 1, none⟩ = some (.float .f64 m.2) := (HBe.out.cell (p := ⟨r, _, none⟩) hr).trans hx2
          obtain ⟨css, q1, q2, q3⟩ := HA.out
          have HC2 := Lib.hid (q2.alloc (.cells #[.string m.1, .float .f64 m.2] 31))
          have HOL : Hid (∀ q, (Value.slice A1 T.length c1).ownBlock = some q → q < wr.heap.size) := Lib.hid (fun q hq => (q2.lt q hq).2)
          have HOB : Hid (∀ q, (Value.slice A1 T.length c1).ownBlock = some q → w3.heap.size ≤ q) := Lib.hid (fun q hq => (q2.lt q hq).1)
          have HBB : Hid (w3.heap.size ≤ (wr.alloc (.cells #[.string m.1, .float .f64 m.2] 31)).heap.size) := Lib.hid (by have := HBe.out.size; simp; omega)
          have HLE : Hid (T.length ≤ N) := Lib.hid (by rw [HX.out.2.2]; have := HX.out.1; simp; omega)
          have HC3 := Lib.hid q3
          have HC1 := Lib.hid q1
          have hN3 := HN3.out
          clear hx1 hx2 q1 q2 q3 hm hr hjl
          go_wp2_with (at_builtin; refine wpList_append_row _ rfl _ _ 23 rfl w3.heap.size 31 i0 (.agg #[.string ⟨#[]⟩, .float .f64 0]) 2 24 Tryd.underlying23 HI.out HZ0.out HZ1.out HZ2.out rfl (by decide) _ _ _ rfl HC2.out ⟨wr.heap.size, 0, none⟩ 1 1 [.string m.1, .float .f64 m.2] rfl rfl Nat.one_pos ?c1 ?c2 ?c3 ?c4 HBB.out ?_)
          case c1 => exact new_cells wr [.string m.1, .float .f64 m.2] 31
          case c2 => simp [Value.oneCell']
          case c3 => have := HLE.out; unfold maxLen; omega
          case c4 => have := HLE.out; omega
          intro out' w4 hown hgr hrow
          have HA3 : Hid (Acc 31 2 ElS w3.heap.size w4 out' (T ++ [m])) := Lib.hid (Acc.app (flat_el _) HC1.out HC3.out HOL.out HBe.out.size (x := m) (cs := [.string m.1, .float .f64 m.2]) rfl rfl hown hgr hrow)
          have HB4 : Hid (Below w3.heap.size w3 w4) := Lib.hid ((HBe.out.alloc HBe.out.size _).grown hgr (by have := HBe.out.size; simp; omega) (fun b e => (HOB.out b e)))
          obtain ⟨A', c', rfl⟩ := HA3.out.slice
          clear hown hgr hrow
          go_wp2_with fail
          exact ⟨⟨k + 1, (j : Int) - 1, T ++ [m], Lib.hid ⟨by have := HX.out; omega, by have := HX.out; omega, HRS.out⟩, rfl, HA3, HB4⟩, by simp [intOf]⟩
        · have eT : T = l.reverse := by
            rw [HX.out.2.2]
            exact List.take_of_length_le (by have := HX.out; have := HN.out; simp; omega)
          have HMT := Lib.hid (mems_memsAt (HA.out.lon (flat_el _)))
          rw [eT] at HMT
          have HB4 := Lib.hid (HB3.out.trans (HBe.out.mono HB3.out.size))
          have HG4 := Lib.hid (HG3.out.below HBe.out)
          have HAA := Lib.hid (all_any wr HG4.out.sk (by have := HLL.out; have := HN3.out; omega))
          have HFO := Lib.hid (fun W (hb : Below wr.heap.size wr W) => fill_any other o64 l.reverse _ W (HMT.out.atB hb) (fun m hm => HLW'.out.bits m (List.mem_reverse.1 hm)) ((HLW'.out.tab.below HB4.out).below hb) (by rw [List.length_reverse]; exact HNS.out))
          clear HA HBe HX HG3 HB3 eT
          go_wp2_with fail
          refine HAA.out.mono ?_
          rintro e w5 ⟨⟨va, rfl, hma⟩, hb5⟩
          have HMA := Lib.hid (mems_memsAt hma)
          obtain ⟨Aa, ca, rfl, _⟩ := id HMA.out
          have HG5 := Lib.hid (HG4.out.below hb5)
          have HB5 := Lib.hid (HB4.out.trans (hb5.mono HB4.out.size))
          have HF5 := Lib.hid (HFO.out _ hb5)
          clear hma hb5 HAA HG4 HB4 HFO HMT
          go_wp2_with fail
          refine HF5.out.mono ?_
          rintro e w6 ⟨s2, own2, L2, rfl, hfr⟩
          have hh2 := hfr.holds
          rw [List.take_length] at hh2
          have eL : L2 = L := holds_same HHO.out hh2 HG5.out.sk.srt hfr.sk.srt
          have HS6 : Hid (SkL w6 own2 s2 L) := Lib.hid (by rw [← eL]; exact hfr.sk)
          have HG6 := Lib.hid (HG5.out.below hfr.old)
          have HB6 := Lib.hid (HB5.out.trans (hfr.old.mono HB5.out.size))
          have HMA6 := Lib.hid (HMA.out.atB hfr.old)
          have HA6 := Lib.hid (all_any w6 HS6.out (by have := HLL.out; have := HN3.out; omega))
          clear hfr hh2 eL HF5 HG5 HB5 HMA
          go_wp2_with fail
          refine HA6.out.mono ?_
          rintro e w7 ⟨⟨vb, rfl, hmb⟩, hb7⟩
          have HMB := Lib.hid (mems_memsAt hmb)
          obtain ⟨Ab, cb, rfl, _⟩ := id HMB.out
          have HG7 := Lib.hid (HG6.out.below hb7)
          have HB7 := Lib.hid (HB6.out.trans (hb7.mono HB6.out.size))
          have HMA7 := Lib.hid (HMA6.out.atB hb7)
          have HSS := Lib.hid (same_scoreds_self L _ _ w7 HMA7.out HMB.out (by have := HLL.out; have := HN3.out; omega))
          obtain ⟨Nl, hNl⟩ : ∃ Nl, Nl = L.length := ⟨_, rfl⟩
          have HNl := Lib.hid hNl
          have HN4 : Hid (Nl ≤ 300) := Lib.hid (by have := HLL.out; have := HN3.out; omega)
          rw [← hNl] at HSS ⊢
          clear hmb hb7 HA6 HG6 HB6 HMA6 HMB HS6 hNl
          go_wp2_with fail
          refine HSS.out.mono ?_
          rintro e w8 ⟨rfl, hb8⟩
          have HG8 := Lib.hid (HG7.out.below hb8)
          have HB8 := Lib.hid (HB7.out.trans (hb8.mono HB7.out.size))
          have HMA8 := Lib.hid (HMA7.out.atB hb8)
          have HLE := Lib.hid (len_list HG8.out.sk)
          rw [← HNl.out] at HLE
          clear hb8 HSS HG7 HB7 HMA7
          go_wp2_with fail
          refine HLE.out.mono ?_
          rintro e w9 ⟨rfl, rfl⟩
          go_wp2_with fail
          refine (check_list HG8.out.sk).mono ?_
          rintro e w9 ⟨rfl, hb9⟩
          have HG9 := Lib.hid (HG8.out.below hb9)
          have HB9 := Lib.hid (HB8.out.trans (hb9.mono HB8.out.size))
          have HMA9 := Lib.hid (HMA8.out.atB hb9)
          have HSR := Lib.hid HG9.out.sk.srt
          clear hb9 HLE HG8 HB8 HMA8
          go_wp2_with fail
          go_loopw [12] (fun i wr => ∃ j : Nat, j ≤ Nl ∧ i = .int .i64 ((j : Int) + 1) ∧ Hid (Below w9.heap.size w9 wr)) (fun i _ => Nl + 1 - (intOf i).toNat)
          case atStart => exact ⟨0, Nat.zero_le _, rfl, Lib.hid (Below.refl _ _)⟩
          case round =>
            obtain ⟨j, hj, rfl, HBr⟩ := hrel
            have hN4 := HN4.out
            by_cases hlt : (j : Int) + 1 < (Nl : Int)
            · have hjl : j + 1 < L.length := by have := HNl.out; omega
              obtain ⟨r, o, rfl, hr, px1, px2⟩ := HMA9.out.get j (by omega)
              obtain ⟨r', o', e', _, py1, py2⟩ := HMA9.out.get (j + 1) hjl
              cases e'
              have hst := srt_next HSR.out hjl
              obtain ⟨p, hp⟩ : ∃ p, p = L[j] := ⟨_, rfl⟩
              obtain ⟨q, hq⟩ : ∃ q, q = L[j + 1] := ⟨_, rfl⟩
              rw [← hp] at hst px1 px2
              rw [← hq] at hst py1 py2
              have x1 : wr.cell? ⟨r, o + j * 2, none⟩ = some (.string p.1) := (HBr.out.cell (p := ⟨r, _, none⟩) hr).trans px1
              have x2 : wr.cell? ⟨r, o + j * 2 + 1, none⟩ = some (.float .f64 p.2) := (HBr.out.cell (p := ⟨r, _, none⟩) hr).trans px2
              have y1 : wr.cell? ⟨r, o + (j + 1) * 2, none⟩ = some (.string q.1) := (HBr.out.cell (p := ⟨r, _, none⟩) hr).trans py1
              have y2 : wr.cell? ⟨r, o + (j + 1) * 2 + 1, none⟩ = some (.float .f64 q.2) := (HBr.out.cell (p := ⟨r, _, none⟩) hr).trans py2
              obtain ⟨h1, h2⟩ := hst
              have r1 := fGt_gtF h1
              have hw : IntKind.i64.wrap (j : Int) = (j : Int) := by rw [IntKind.wrap_i64]; omega
              have hz : (0 : Int) ≤ (j : Int) + 1 := by omega
              have hz2 : ((j : Int) + 1).toNat = j + 1 := by omega
              have hz3 : (j : Int) < (Nl : Int) := by omega
              clear px1 px2 py1 py2 hp hq h1
              rcases h2 with h2 | ⟨h2, h3⟩
              · have r2 := fEq_eqF h2
                clear h2
                go_wp2_with fail
                refine wp_region_q [0,0,0,0,0,1,0,0,0,0,1,0,0,0,0,0,0,0,1,0,0,0,0,1,0,0,0,0,0,0,0,1,0,0,0,0,1,0,0,0] (by kernel_rfl) (by kernel_rfl) ?_
                (refine q_pure_n rfl (fun K hK => ?_); go_simp; refine hK _ _ ?_; clear hK K)
                (refine q_pure_n rfl (fun K hK => ?_); go_simp; refine hK _ _ ?_; clear hK K)
                (refine q_pure_n rfl (fun K hK => ?_); go_simp; refine hK _ _ ?_; clear hK K)
                (refine q_pure_n rfl (fun K hK => ?_); go_simp; refine hK _ _ ?_; clear hK K)
                (refine q_pure_n rfl (fun K hK => ?_); go_simp; refine hK _ _ ?_; clear hK K)
                (refine q_read_n rfl (fun K hK => ?_); go_simp; refine hK _ _ ?_; clear hK K)
                (refine q_pure_n rfl (fun K hK => ?_); go_simp; refine hK _ _ ?_; clear hK K)
                (refine q_pure_n rfl (fun K hK => ?_); go_simp; refine hK _ _ ?_; clear hK K)
                (refine q_pure_n rfl (fun K hK => ?_); go_simp; refine hK _ _ ?_; clear hK K)
                (refine q_pure_n rfl (fun K hK => ?_); go_simp; refine hK _ _ ?_; clear hK K)
                (refine q_read_n rfl (fun K hK => ?_); go_simp; refine hK _ _ ?_; clear hK K)
                (refine q_pure_n rfl (fun K hK => ?_); go_simp; refine hK _ _ ?_; clear hK K)
                (refine q_pure_n rfl (fun K hK => ?_); go_simp; refine hK _ _ ?_; clear hK K)
                first | (refine q_pure_x rfl ?hy (fun K hK => ?_); (case hy => rfl); go_simp; refine hK _ _ ?_; clear hK K) | (refine q_pure_u rfl ?hy (fun K hK => ?_); (case hy => rfl); go_simp; refine hK _ _ ?_; clear hK K) | (refine q_pure_y rfl ?hy (fun K hK => ?_); (case hy => rfl); go_simp; refine hK _ _ ?_; clear hK K)
                first | (refine q_pure_x rfl ?hy (fun K hK => ?_); (case hy => rfl); go_simp; refine hK _ _ ?_; clear hK K) | (refine q_pure_u rfl ?hy (fun K hK => ?_); (case hy => rfl); go_simp; refine hK _ _ ?_; clear hK K) | (refine q_pure_y rfl ?hy (fun K hK => ?_); (case hy => rfl); go_simp; refine hK _ _ ?_; clear hK K)
                first | (refine q_pure_x rfl ?hy (fun K hK => ?_); (case hy => rfl); go_simp; refine hK _ _ ?_; clear hK K) | (refine q_pure_u rfl ?hy (fun K hK => ?_); (case hy => rfl); go_simp; refine hK _ _ ?_; clear hK K) | (refine q_pure_y rfl ?hy (fun K hK => ?_); (case hy => rfl); go_simp; refine hK _ _ ?_; clear hK K)
                first | (refine q_pure_x rfl ?hy (fun K hK => ?_); (case hy => rfl); go_simp; refine hK _ _ ?_; clear hK K) | (refine q_pure_u rfl ?hy (fun K hK => ?_); (case hy => rfl); go_simp; refine hK _ _ ?_; clear hK K) | (refine q_pure_y rfl ?hy (fun K hK => ?_); (case hy => rfl); go_simp; refine hK _ _ ?_; clear hK K)
                first | (refine q_pure_x rfl ?hy (fun K hK => ?_); (case hy => rfl); go_simp; refine hK _ _ ?_; clear hK K) | (refine q_pure_u rfl ?hy (fun K hK => ?_); (case hy => rfl); go_simp; refine hK _ _ ?_; clear hK K) | (refine q_pure_y rfl ?hy (fun K hK => ?_); (case hy => rfl); go_simp; refine hK _ _ ?_; clear hK K)
                first | (refine q_read_x rfl ?hy (fun K hK => ?_); (case hy => rfl); go_simp; refine hK _ _ ?_; clear hK K) | (refine q_read_u rfl ?hy (fun K hK => ?_); (case hy => rfl); go_simp; refine hK _ _ ?_; clear hK K) | (refine q_read_y rfl ?hy (fun K hK => ?_); (case hy => rfl); go_simp; refine hK _ _ ?_; clear hK K)
                first | (refine q_pure_x rfl ?hy (fun K hK => ?_); (case hy => rfl); go_simp; refine hK _ _ ?_; clear hK K) | (refine q_pure_u rfl ?hy (fun K hK => ?_); (case hy => rfl); go_simp; refine hK _ _ ?_; clear hK K) | (refine q_pure_y rfl ?hy (fun K hK => ?_); (case hy => rfl); go_simp; refine hK _ _ ?_; clear hK K)
                first | (refine q_pure_x rfl ?hy (fun K hK => ?_); (case hy => rfl); go_simp; refine hK _ _ ?_; clear hK K) | (refine q_pure_u rfl ?hy (fun K hK => ?_); (case hy => rfl); go_simp; refine hK _ _ ?_; clear hK K) | (refine q_pure_y rfl ?hy (fun K hK => ?_); (case hy => rfl); go_simp; refine hK _ _ ?_; clear hK K)
                first | (refine q_pure_x rfl ?hy (fun K hK => ?_); (case hy => rfl); go_simp; refine hK _ _ ?_; clear hK K) | (refine q_pure_u rfl ?hy (fun K hK => ?_); (case hy => rfl); go_simp; refine hK _ _ ?_; clear hK K) | (refine q_pure_y rfl ?hy (fun K hK => ?_); (case hy => rfl); go_simp; refine hK _ _ ?_; clear hK K)
                first | (refine q_pure_x rfl ?hy (fun K hK => ?_); (case hy => rfl); go_simp; refine hK _ _ ?_; clear hK K) | (refine q_pure_u rfl ?hy (fun K hK => ?_); (case hy => rfl); go_simp; refine hK _ _ ?_; clear hK K) | (refine q_pure_y rfl ?hy (fun K hK => ?_); (case hy => rfl); go_simp; refine hK _ _ ?_; clear hK K)
                first | (refine q_read_x rfl ?hy (fun K hK => ?_); (case hy => rfl); go_simp; refine hK _ _ ?_; clear hK K) | (refine q_read_u rfl ?hy (fun K hK => ?_); (case hy => rfl); go_simp; refine hK _ _ ?_; clear hK K) | (refine q_read_y rfl ?hy (fun K hK => ?_); (case hy => rfl); go_simp; refine hK _ _ ?_; clear hK K)
                first | (refine q_pure_x rfl ?hy (fun K hK => ?_); (case hy => rfl); go_simp; refine hK _ _ ?_; clear hK K) | (refine q_pure_u rfl ?hy (fun K hK => ?_); (case hy => rfl); go_simp; refine hK _ _ ?_; clear hK K) | (refine q_pure_y rfl ?hy (fun K hK => ?_); (case hy => rfl); go_simp; refine hK _ _ ?_; clear hK K)
                first | (refine q_pure_x rfl ?hy (fun K hK => ?_); (case hy => rfl); go_simp; refine hK _ _ ?_; clear hK K) | (refine q_pure_u rfl ?hy (fun K hK => ?_); (case hy => rfl); go_simp; refine hK _ _ ?_; clear hK K) | (refine q_pure_y rfl ?hy (fun K hK => ?_); (case hy => rfl); go_simp; refine hK _ _ ?_; clear hK K)
                first | (refine q_pure_x rfl ?hy (fun K hK => ?_); (case hy => rfl); go_simp; refine hK _ _ ?_; clear hK K) | (refine q_pure_u rfl ?hy (fun K hK => ?_); (case hy => rfl); go_simp; refine hK _ _ ?_; clear hK K) | (refine q_pure_y rfl ?hy (fun K hK => ?_); (case hy => rfl); go_simp; refine hK _ _ ?_; clear hK K)
                first | (refine q_pure_x rfl ?hy (fun K hK => ?_); (case hy => rfl); go_simp; refine hK _ _ ?_; clear hK K) | (refine q_pure_u rfl ?hy (fun K hK => ?_); (case hy => rfl); go_simp; refine hK _ _ ?_; clear hK K) | (refine q_pure_y rfl ?hy (fun K hK => ?_); (case hy => rfl); go_simp; refine hK _ _ ?_; clear hK K)
                first | (refine q_pure_x rfl ?hy (fun K hK => ?_); (case hy => rfl); go_simp; refine hK _ _ ?_; clear hK K) | (refine q_pure_u rfl ?hy (fun K hK => ?_); (case hy => rfl); go_simp; refine hK _ _ ?_; clear hK K) | (refine q_pure_y rfl ?hy (fun K hK => ?_); (case hy => rfl); go_simp; refine hK _ _ ?_; clear hK K)
                first | (refine q_pure_x rfl ?hy (fun K hK => ?_); (case hy => rfl); go_simp; refine hK _ _ ?_; clear hK K) | (refine q_pure_u rfl ?hy (fun K hK => ?_); (case hy => rfl); go_simp; refine hK _ _ ?_; clear hK K) | (refine q_pure_y rfl ?hy (fun K hK => ?_); (case hy => rfl); go_simp; refine hK _ _ ?_; clear hK K)
                first | (refine q_pure_x rfl ?hy (fun K hK => ?_); (case hy => rfl); go_simp; refine hK _ _ ?_; clear hK K) | (refine q_pure_u rfl ?hy (fun K hK => ?_); (case hy => rfl); go_simp; refine hK _ _ ?_; clear hK K) | (refine q_pure_y rfl ?hy (fun K hK => ?_); (case hy => rfl); go_simp; refine hK _ _ ?_; clear hK K)
                first | (refine q_read_x rfl ?hy (fun K hK => ?_); (case hy => rfl); go_simp; refine hK _ _ ?_; clear hK K) | (refine q_read_u rfl ?hy (fun K hK => ?_); (case hy => rfl); go_simp; refine hK _ _ ?_; clear hK K) | (refine q_read_y rfl ?hy (fun K hK => ?_); (case hy => rfl); go_simp; refine hK _ _ ?_; clear hK K)
                first | (refine q_pure_x rfl ?hy (fun K hK => ?_); (case hy => rfl); go_simp; refine hK _ _ ?_; clear hK K) | (refine q_pure_u rfl ?hy (fun K hK => ?_); (case hy => rfl); go_simp; refine hK _ _ ?_; clear hK K) | (refine q_pure_y rfl ?hy (fun K hK => ?_); (case hy => rfl); go_simp; refine hK _ _ ?_; clear hK K)
                first | (refine q_pure_x rfl ?hy (fun K hK => ?_); (case hy => rfl); go_simp; refine hK _ _ ?_; clear hK K) | (refine q_pure_u rfl ?hy (fun K hK => ?_); (case hy => rfl); go_simp; refine hK _ _ ?_; clear hK K) | (refine q_pure_y rfl ?hy (fun K hK => ?_); (case hy => rfl); go_simp; refine hK _ _ ?_; clear hK K)
                first | (refine q_pure_x rfl ?hy (fun K hK => ?_); (case hy => rfl); go_simp; refine hK _ _ ?_; clear hK K) | (refine q_pure_u rfl ?hy (fun K hK => ?_); (case hy => rfl); go_simp; refine hK _ _ ?_; clear hK K) | (refine q_pure_y rfl ?hy (fun K hK => ?_); (case hy => rfl); go_simp; refine hK _ _ ?_; clear hK K)
                first | (refine q_pure_x rfl ?hy (fun K hK => ?_); (case hy => rfl); go_simp; refine hK _ _ ?_; clear hK K) | (refine q_pure_u rfl ?hy (fun K hK => ?_); (case hy => rfl); go_simp; refine hK _ _ ?_; clear hK K) | (refine q_pure_y rfl ?hy (fun K hK => ?_); (case hy => rfl); go_simp; refine hK _ _ ?_; clear hK K)
                first | (refine q_read_x rfl ?hy (fun K hK => ?_); (case hy => rfl); go_simp; refine hK _ _ ?_; clear hK K) | (refine q_read_u rfl ?hy (fun K hK => ?_); (case hy => rfl); go_simp; refine hK _ _ ?_; clear hK K) | (refine q_read_y rfl ?hy (fun K hK => ?_); (case hy => rfl); go_simp; refine hK _ _ ?_; clear hK K)
                first | (refine q_pure_x rfl ?hy (fun K hK => ?_); (case hy => rfl); go_simp; refine hK _ _ ?_; clear hK K) | (refine q_pure_u rfl ?hy (fun K hK => ?_); (case hy => rfl); go_simp; refine hK _ _ ?_; clear hK K) | (refine q_pure_y rfl ?hy (fun K hK => ?_); (case hy => rfl); go_simp; refine hK _ _ ?_; clear hK K)
                first | (refine q_pure_x rfl ?hy (fun K hK => ?_); (case hy => rfl); go_simp; refine hK _ _ ?_; clear hK K) | (refine q_pure_u rfl ?hy (fun K hK => ?_); (case hy => rfl); go_simp; refine hK _ _ ?_; clear hK K) | (refine q_pure_y rfl ?hy (fun K hK => ?_); (case hy => rfl); go_simp; refine hK _ _ ?_; clear hK K)
                (refine q_pure_n rfl (fun K hK => ?_); go_simp; refine hK _ _ ?_; clear hK K)
                refine q_nil ?_
                intro nq
                go_wp2_with fail
                exact ⟨⟨j + 1, by omega, by go_num, Lib.hid (below_drewN HBr.out _)⟩, by simp [intOf]; omega⟩
              · have r2 := fEq_eqT h2
                clear h2
                go_wp2_with fail
                refine wp_region_q [0,0,0,0,0,1,0,0,0,0,1,0,0,0,0,0,0,0,1,0,0,0,0,1,0,0,0,0,0,0,0,1,0,0,0,0,1,0,0,0] (by kernel_rfl) (by kernel_rfl) ?_
                (refine q_pure_n rfl (fun K hK => ?_); go_simp; refine hK _ _ ?_; clear hK K)
                (refine q_pure_n rfl (fun K hK => ?_); go_simp; refine hK _ _ ?_; clear hK K)
                (refine q_pure_n rfl (fun K hK => ?_); go_simp; refine hK _ _ ?_; clear hK K)
                (refine q_pure_n rfl (fun K hK => ?_); go_simp; refine hK _ _ ?_; clear hK K)
                (refine q_pure_n rfl (fun K hK => ?_); go_simp; refine hK _ _ ?_; clear hK K)
                (refine q_read_n rfl (fun K hK => ?_); go_simp; refine hK _ _ ?_; clear hK K)
                (refine q_pure_n rfl (fun K hK => ?_); go_simp; refine hK _ _ ?_; clear hK K)
                (refine q_pure_n rfl (fun K hK => ?_); go_simp; refine hK _ _ ?_; clear hK K)
                (refine q_pure_n rfl (fun K hK => ?_); go_simp; refine hK _ _ ?_; clear hK K)
                (refine q_pure_n rfl (fun K hK => ?_); go_simp; refine hK _ _ ?_; clear hK K)
                (refine q_read_n rfl (fun K hK => ?_); go_simp; refine hK _ _ ?_; clear hK K)
                (refine q_pure_n rfl (fun K hK => ?_); go_simp; refine hK _ _ ?_; clear hK K)
                (refine q_pure_n rfl (fun K hK => ?_); go_simp; refine hK _ _ ?_; clear hK K)
                first | (refine q_pure_x rfl ?hy (fun K hK => ?_); (case hy => rfl); go_simp; refine hK _ _ ?_; clear hK K) | (refine q_pure_u rfl ?hy (fun K hK => ?_); (case hy => rfl); go_simp; refine hK _ _ ?_; clear hK K) | (refine q_pure_y rfl ?hy (fun K hK => ?_); (case hy => rfl); go_simp; refine hK _ _ ?_; clear hK K)
                first | (refine q_pure_x rfl ?hy (fun K hK => ?_); (case hy => rfl); go_simp; refine hK _ _ ?_; clear hK K) | (refine q_pure_u rfl ?hy (fun K hK => ?_); (case hy => rfl); go_simp; refine hK _ _ ?_; clear hK K) | (refine q_pure_y rfl ?hy (fun K hK => ?_); (case hy => rfl); go_simp; refine hK _ _ ?_; clear hK K)
                first | (refine q_pure_x rfl ?hy (fun K hK => ?_); (case hy => rfl); go_simp; refine hK _ _ ?_; clear hK K) | (refine q_pure_u rfl ?hy (fun K hK => ?_); (case hy => rfl); go_simp; refine hK _ _ ?_; clear hK K) | (refine q_pure_y rfl ?hy (fun K hK => ?_); (case hy => rfl); go_simp; refine hK _ _ ?_; clear hK K)
                first | (refine q_pure_x rfl ?hy (fun K hK => ?_); (case hy => rfl); go_simp; refine hK _ _ ?_; clear hK K) | (refine q_pure_u rfl ?hy (fun K hK => ?_); (case hy => rfl); go_simp; refine hK _ _ ?_; clear hK K) | (refine q_pure_y rfl ?hy (fun K hK => ?_); (case hy => rfl); go_simp; refine hK _ _ ?_; clear hK K)
                first | (refine q_pure_x rfl ?hy (fun K hK => ?_); (case hy => rfl); go_simp; refine hK _ _ ?_; clear hK K) | (refine q_pure_u rfl ?hy (fun K hK => ?_); (case hy => rfl); go_simp; refine hK _ _ ?_; clear hK K) | (refine q_pure_y rfl ?hy (fun K hK => ?_); (case hy => rfl); go_simp; refine hK _ _ ?_; clear hK K)
                first | (refine q_read_x rfl ?hy (fun K hK => ?_); (case hy => rfl); go_simp; refine hK _ _ ?_; clear hK K) | (refine q_read_u rfl ?hy (fun K hK => ?_); (case hy => rfl); go_simp; refine hK _ _ ?_; clear hK K) | (refine q_read_y rfl ?hy (fun K hK => ?_); (case hy => rfl); go_simp; refine hK _ _ ?_; clear hK K)
                first | (refine q_pure_x rfl ?hy (fun K hK => ?_); (case hy => rfl); go_simp; refine hK _ _ ?_; clear hK K) | (refine q_pure_u rfl ?hy (fun K hK => ?_); (case hy => rfl); go_simp; refine hK _ _ ?_; clear hK K) | (refine q_pure_y rfl ?hy (fun K hK => ?_); (case hy => rfl); go_simp; refine hK _ _ ?_; clear hK K)
                first | (refine q_pure_x rfl ?hy (fun K hK => ?_); (case hy => rfl); go_simp; refine hK _ _ ?_; clear hK K) | (refine q_pure_u rfl ?hy (fun K hK => ?_); (case hy => rfl); go_simp; refine hK _ _ ?_; clear hK K) | (refine q_pure_y rfl ?hy (fun K hK => ?_); (case hy => rfl); go_simp; refine hK _ _ ?_; clear hK K)
                first | (refine q_pure_x rfl ?hy (fun K hK => ?_); (case hy => rfl); go_simp; refine hK _ _ ?_; clear hK K) | (refine q_pure_u rfl ?hy (fun K hK => ?_); (case hy => rfl); go_simp; refine hK _ _ ?_; clear hK K) | (refine q_pure_y rfl ?hy (fun K hK => ?_); (case hy => rfl); go_simp; refine hK _ _ ?_; clear hK K)
                first | (refine q_pure_x rfl ?hy (fun K hK => ?_); (case hy => rfl); go_simp; refine hK _ _ ?_; clear hK K) | (refine q_pure_u rfl ?hy (fun K hK => ?_); (case hy => rfl); go_simp; refine hK _ _ ?_; clear hK K) | (refine q_pure_y rfl ?hy (fun K hK => ?_); (case hy => rfl); go_simp; refine hK _ _ ?_; clear hK K)
                first | (refine q_read_x rfl ?hy (fun K hK => ?_); (case hy => rfl); go_simp; refine hK _ _ ?_; clear hK K) | (refine q_read_u rfl ?hy (fun K hK => ?_); (case hy => rfl); go_simp; refine hK _ _ ?_; clear hK K) | (refine q_read_y rfl ?hy (fun K hK => ?_); (case hy => rfl); go_simp; refine hK _ _ ?_; clear hK K)
                first | (refine q_pure_x rfl ?hy (fun K hK => ?_); (case hy => rfl); go_simp; refine hK _ _ ?_; clear hK K) | (refine q_pure_u rfl ?hy (fun K hK => ?_); (case hy => rfl); go_simp; refine hK _ _ ?_; clear hK K) | (refine q_pure_y rfl ?hy (fun K hK => ?_); (case hy => rfl); go_simp; refine hK _ _ ?_; clear hK K)
                first | (refine q_pure_x rfl ?hy (fun K hK => ?_); (case hy => rfl); go_simp; refine hK _ _ ?_; clear hK K) | (refine q_pure_u rfl ?hy (fun K hK => ?_); (case hy => rfl); go_simp; refine hK _ _ ?_; clear hK K) | (refine q_pure_y rfl ?hy (fun K hK => ?_); (case hy => rfl); go_simp; refine hK _ _ ?_; clear hK K)
                first | (refine q_pure_x rfl ?hy (fun K hK => ?_); (case hy => rfl); go_simp; refine hK _ _ ?_; clear hK K) | (refine q_pure_u rfl ?hy (fun K hK => ?_); (case hy => rfl); go_simp; refine hK _ _ ?_; clear hK K) | (refine q_pure_y rfl ?hy (fun K hK => ?_); (case hy => rfl); go_simp; refine hK _ _ ?_; clear hK K)
                first | (refine q_pure_x rfl ?hy (fun K hK => ?_); (case hy => rfl); go_simp; refine hK _ _ ?_; clear hK K) | (refine q_pure_u rfl ?hy (fun K hK => ?_); (case hy => rfl); go_simp; refine hK _ _ ?_; clear hK K) | (refine q_pure_y rfl ?hy (fun K hK => ?_); (case hy => rfl); go_simp; refine hK _ _ ?_; clear hK K)
                first | (refine q_pure_x rfl ?hy (fun K hK => ?_); (case hy => rfl); go_simp; refine hK _ _ ?_; clear hK K) | (refine q_pure_u rfl ?hy (fun K hK => ?_); (case hy => rfl); go_simp; refine hK _ _ ?_; clear hK K) | (refine q_pure_y rfl ?hy (fun K hK => ?_); (case hy => rfl); go_simp; refine hK _ _ ?_; clear hK K)
                first | (refine q_pure_x rfl ?hy (fun K hK => ?_); (case hy => rfl); go_simp; refine hK _ _ ?_; clear hK K) | (refine q_pure_u rfl ?hy (fun K hK => ?_); (case hy => rfl); go_simp; refine hK _ _ ?_; clear hK K) | (refine q_pure_y rfl ?hy (fun K hK => ?_); (case hy => rfl); go_simp; refine hK _ _ ?_; clear hK K)
                first | (refine q_pure_x rfl ?hy (fun K hK => ?_); (case hy => rfl); go_simp; refine hK _ _ ?_; clear hK K) | (refine q_pure_u rfl ?hy (fun K hK => ?_); (case hy => rfl); go_simp; refine hK _ _ ?_; clear hK K) | (refine q_pure_y rfl ?hy (fun K hK => ?_); (case hy => rfl); go_simp; refine hK _ _ ?_; clear hK K)
                first | (refine q_read_x rfl ?hy (fun K hK => ?_); (case hy => rfl); go_simp; refine hK _ _ ?_; clear hK K) | (refine q_read_u rfl ?hy (fun K hK => ?_); (case hy => rfl); go_simp; refine hK _ _ ?_; clear hK K) | (refine q_read_y rfl ?hy (fun K hK => ?_); (case hy => rfl); go_simp; refine hK _ _ ?_; clear hK K)
                first | (refine q_pure_x rfl ?hy (fun K hK => ?_); (case hy => rfl); go_simp; refine hK _ _ ?_; clear hK K) | (refine q_pure_u rfl ?hy (fun K hK => ?_); (case hy => rfl); go_simp; refine hK _ _ ?_; clear hK K) | (refine q_pure_y rfl ?hy (fun K hK => ?_); (case hy => rfl); go_simp; refine hK _ _ ?_; clear hK K)
                first | (refine q_pure_x rfl ?hy (fun K hK => ?_); (case hy => rfl); go_simp; refine hK _ _ ?_; clear hK K) | (refine q_pure_u rfl ?hy (fun K hK => ?_); (case hy => rfl); go_simp; refine hK _ _ ?_; clear hK K) | (refine q_pure_y rfl ?hy (fun K hK => ?_); (case hy => rfl); go_simp; refine hK _ _ ?_; clear hK K)
                first | (refine q_pure_x rfl ?hy (fun K hK => ?_); (case hy => rfl); go_simp; refine hK _ _ ?_; clear hK K) | (refine q_pure_u rfl ?hy (fun K hK => ?_); (case hy => rfl); go_simp; refine hK _ _ ?_; clear hK K) | (refine q_pure_y rfl ?hy (fun K hK => ?_); (case hy => rfl); go_simp; refine hK _ _ ?_; clear hK K)
                first | (refine q_pure_x rfl ?hy (fun K hK => ?_); (case hy => rfl); go_simp; refine hK _ _ ?_; clear hK K) | (refine q_pure_u rfl ?hy (fun K hK => ?_); (case hy => rfl); go_simp; refine hK _ _ ?_; clear hK K) | (refine q_pure_y rfl ?hy (fun K hK => ?_); (case hy => rfl); go_simp; refine hK _ _ ?_; clear hK K)
                first | (refine q_read_x rfl ?hy (fun K hK => ?_); (case hy => rfl); go_simp; refine hK _ _ ?_; clear hK K) | (refine q_read_u rfl ?hy (fun K hK => ?_); (case hy => rfl); go_simp; refine hK _ _ ?_; clear hK K) | (refine q_read_y rfl ?hy (fun K hK => ?_); (case hy => rfl); go_simp; refine hK _ _ ?_; clear hK K)
                first | (refine q_pure_x rfl ?hy (fun K hK => ?_); (case hy => rfl); go_simp; refine hK _ _ ?_; clear hK K) | (refine q_pure_u rfl ?hy (fun K hK => ?_); (case hy => rfl); go_simp; refine hK _ _ ?_; clear hK K) | (refine q_pure_y rfl ?hy (fun K hK => ?_); (case hy => rfl); go_simp; refine hK _ _ ?_; clear hK K)
                first | (refine q_pure_x rfl ?hy (fun K hK => ?_); (case hy => rfl); go_simp; refine hK _ _ ?_; clear hK K) | (refine q_pure_u rfl ?hy (fun K hK => ?_); (case hy => rfl); go_simp; refine hK _ _ ?_; clear hK K) | (refine q_pure_y rfl ?hy (fun K hK => ?_); (case hy => rfl); go_simp; refine hK _ _ ?_; clear hK K)
                (refine q_pure_n rfl (fun K hK => ?_); go_simp; refine hK _ _ ?_; clear hK K)
                refine q_nil ?_
                intro nq
                go_wp2_with fail
                exact ⟨⟨j + 1, by omega, by go_num, Lib.hid (below_drewN HBr.out _)⟩, by simp [intOf]; omega⟩
            · have HG10 := Lib.hid (HG9.out.below HBr.out)
              have HB10 := Lib.hid (HB9.out.trans (HBr.out.mono HB9.out.size))
              have HMA10 := Lib.hid (HMA9.out.atB HBr.out)
              have HL10 := Lib.hid (HLW'.out.below HB10.out)
              clear HBr HG9 HB9 HMA9 hj
              go_wp2_with fail
              obtain ⟨wx, hwx⟩ : ∃ wx, wx = wr := ⟨_, rfl⟩
              rw [← hwx] at HG10 HB10 HMA10 HL10 ⊢
              clear hwx
              go_loopw [13] (fun i wr => ∃ k : Nat, k ≤ N ∧ i = .int .i64 (k : Int) ∧ Hid (Below wx.heap.size wx wr)) (fun i _ => N - (intOf i).toNat)
              case atStart => exact ⟨0, Nat.zero_le _, rfl, Lib.hid (Below.refl _ _)⟩
              case round =>
                obtain ⟨k, hk, rfl, HBr⟩ := hrel
                have hN3 := HN3.out
                by_cases hlt : (k : Int) < (N : Int)
                · have hkl : k < l.length := by have := HN.out; omega
                  obtain ⟨r, o, rfl, hr, px1, px2⟩ := HL10.out.at_.get k hkl
                  obtain ⟨m, hm⟩ : ∃ m, m = l[k] := ⟨_, rfl⟩
                  have HML : Hid (m ∈ l ∧ m.2 < 2 ^ 64) := Lib.hid (by rw [hm]; exact ⟨List.getElem_mem _, HL10.out.bits _ (List.getElem_mem _)⟩)
                  rw [← hm] at px1 px2
                  have x1 : wr.cell? ⟨r, o + k * 2, none⟩ = some (.string m.1) := (HBr.out.cell (p := ⟨r, _, none⟩) hr).trans px1
                  have x2 : wr.cell? ⟨r, o + k * 2 + 1, none⟩ = some (.float .f64 m.2) := (HBr.out.cell (p := ⟨r, _, none⟩) hr).trans px2
                  have HRK := Lib.hid (fun n => (rank_list m ((HG10.out.below HBr.out).sk.below (below_drewN (Below.refl _ wr) n)) HML.out.2))
                  clear px1 px2 hm
                  cases h1 : fEq m.2 m.2 with
                  | false =>
                    have r1 := fEq_eqF h1
                    have HOK : Hid (∀ r ok, RankL L m r ok → ok = false) := Lib.hid (fun r ok hr => by rw [rank_may HHO.out HML.out.1 hr, h1]; rfl)
                    clear h1
                    go_wp2_with fail
                    refine wp_region_q [0,0,0,0,1,0,0,0,0,1,0,0,0,0,0,0,1,0,0,0,0] (by kernel_rfl) (by kernel_rfl) ?_
                    (refine q_pure_n rfl (fun K hK => ?_); go_simp; refine hK _ _ ?_; clear hK K)
                    (refine q_pure_n rfl (fun K hK => ?_); go_simp; refine hK _ _ ?_; clear hK K)
                    (refine q_pure_n rfl (fun K hK => ?_); go_simp; refine hK _ _ ?_; clear hK K)
                    (refine q_pure_n rfl (fun K hK => ?_); go_simp; refine hK _ _ ?_; clear hK K)
                    (refine q_read_n rfl (fun K hK => ?_); go_simp; refine hK _ _ ?_; clear hK K)
                    (refine q_pure_n rfl (fun K hK => ?_); go_simp; refine hK _ _ ?_; clear hK K)
                    (refine q_pure_n rfl (fun K hK => ?_); go_simp; refine hK _ _ ?_; clear hK K)
                    (refine q_pure_n rfl (fun K hK => ?_); go_simp; refine hK _ _ ?_; clear hK K)
                    (refine q_pure_n rfl (fun K hK => ?_); go_simp; refine hK _ _ ?_; clear hK K)
                    (refine q_read_n rfl (fun K hK => ?_); go_simp; refine hK _ _ ?_; clear hK K)
                    (refine q_pure_n rfl (fun K hK => ?_); go_simp; refine hK _ _ ?_; clear hK K)
                    (refine q_pure_n rfl (fun K hK => ?_); go_simp; refine hK _ _ ?_; clear hK K)
                    first | (refine q_pure_x rfl ?hy (fun K hK => ?_); (case hy => rfl); go_simp; refine hK _ _ ?_; clear hK K) | (refine q_pure_u rfl ?hy (fun K hK => ?_); (case hy => rfl); go_simp; refine hK _ _ ?_; clear hK K) | (refine q_pure_y rfl ?hy (fun K hK => ?_); (case hy => rfl); go_simp; refine hK _ _ ?_; clear hK K)
                    first | (refine q_pure_x rfl ?hy (fun K hK => ?_); (case hy => rfl); go_simp; refine hK _ _ ?_; clear hK K) | (refine q_pure_u rfl ?hy (fun K hK => ?_); (case hy => rfl); go_simp; refine hK _ _ ?_; clear hK K) | (refine q_pure_y rfl ?hy (fun K hK => ?_); (case hy => rfl); go_simp; refine hK _ _ ?_; clear hK K)
                    first | (refine q_pure_x rfl ?hy (fun K hK => ?_); (case hy => rfl); go_simp; refine hK _ _ ?_; clear hK K) | (refine q_pure_u rfl ?hy (fun K hK => ?_); (case hy => rfl); go_simp; refine hK _ _ ?_; clear hK K) | (refine q_pure_y rfl ?hy (fun K hK => ?_); (case hy => rfl); go_simp; refine hK _ _ ?_; clear hK K)
                    first | (refine q_pure_x rfl ?hy (fun K hK => ?_); (case hy => rfl); go_simp; refine hK _ _ ?_; clear hK K) | (refine q_pure_u rfl ?hy (fun K hK => ?_); (case hy => rfl); go_simp; refine hK _ _ ?_; clear hK K) | (refine q_pure_y rfl ?hy (fun K hK => ?_); (case hy => rfl); go_simp; refine hK _ _ ?_; clear hK K)
                    first | (refine q_read_x rfl ?hy (fun K hK => ?_); (case hy => rfl); go_simp; refine hK _ _ ?_; clear hK K) | (refine q_read_u rfl ?hy (fun K hK => ?_); (case hy => rfl); go_simp; refine hK _ _ ?_; clear hK K) | (refine q_read_y rfl ?hy (fun K hK => ?_); (case hy => rfl); go_simp; refine hK _ _ ?_; clear hK K)
                    first | (refine q_pure_x rfl ?hy (fun K hK => ?_); (case hy => rfl); go_simp; refine hK _ _ ?_; clear hK K) | (refine q_pure_u rfl ?hy (fun K hK => ?_); (case hy => rfl); go_simp; refine hK _ _ ?_; clear hK K) | (refine q_pure_y rfl ?hy (fun K hK => ?_); (case hy => rfl); go_simp; refine hK _ _ ?_; clear hK K)
                    first | (refine q_pure_x rfl ?hy (fun K hK => ?_); (case hy => rfl); go_simp; refine hK _ _ ?_; clear hK K) | (refine q_pure_u rfl ?hy (fun K hK => ?_); (case hy => rfl); go_simp; refine hK _ _ ?_; clear hK K) | (refine q_pure_y rfl ?hy (fun K hK => ?_); (case hy => rfl); go_simp; refine hK _ _ ?_; clear hK K)
                    (refine q_pure_n rfl (fun K hK => ?_); go_simp; refine hK _ _ ?_; clear hK K)
                    (refine q_pure_n rfl (fun K hK => ?_); go_simp; refine hK _ _ ?_; clear hK K)
                    refine q_nil ?_
                    intro nq
                    go_wp2_with fail
                    refine (HRK.out _).mono ?_
                    rintro e w11 ⟨⟨rk, ok, rfl, hrk⟩, hb11⟩
                    have hok := HOK.out _ _ hrk
                    subst hok
                    have HBq := Lib.hid ((below_drewN HBr.out _).trans (hb11.mono HBr.out.size))
                    clear hrk hb11 HRK HOK
                    go_wp2_with fail
                    exact ⟨⟨k + 1, by omega, by go_num, HBq⟩, by simp [intOf]; omega⟩
                  | true =>
                    have r1 := fEq_eqT h1
                    have HOK : Hid (∀ r ok, RankL L m r ok → ok = decide (m.1.size ≤ 65536)) := Lib.hid (fun r ok hr => by rw [rank_may HHO.out HML.out.1 hr, h1]; rfl)
                    clear h1
                    cases h2 : decide (m.1.size ≤ 65536) with
                    | false =>
                      rw [h2] at HOK
                      have h3 : decide ((m.1.size : Int) ≤ 65536) = false := by have := of_decide_eq_false h2; exact decide_eq_false (by omega)
                      go_wp2_with fail
                      refine wp_region_q [0,0,0,0,1,0,0,0,0,1,0,0,0,0,0,0,1,0,0,0,0] (by kernel_rfl) (by kernel_rfl) ?_
                      (refine q_pure_n rfl (fun K hK => ?_); go_simp; refine hK _ _ ?_; clear hK K)
                      (refine q_pure_n rfl (fun K hK => ?_); go_simp; refine hK _ _ ?_; clear hK K)
                      (refine q_pure_n rfl (fun K hK => ?_); go_simp; refine hK _ _ ?_; clear hK K)
                      (refine q_pure_n rfl (fun K hK => ?_); go_simp; refine hK _ _ ?_; clear hK K)
                      (refine q_read_n rfl (fun K hK => ?_); go_simp; refine hK _ _ ?_; clear hK K)
                      (refine q_pure_n rfl (fun K hK => ?_); go_simp; refine hK _ _ ?_; clear hK K)
                      (refine q_pure_n rfl (fun K hK => ?_); go_simp; refine hK _ _ ?_; clear hK K)
                      (refine q_pure_n rfl (fun K hK => ?_); go_simp; refine hK _ _ ?_; clear hK K)
                      (refine q_pure_n rfl (fun K hK => ?_); go_simp; refine hK _ _ ?_; clear hK K)
                      (refine q_read_n rfl (fun K hK => ?_); go_simp; refine hK _ _ ?_; clear hK K)
                      (refine q_pure_n rfl (fun K hK => ?_); go_simp; refine hK _ _ ?_; clear hK K)
                      (refine q_pure_n rfl (fun K hK => ?_); go_simp; refine hK _ _ ?_; clear hK K)
                      first | (refine q_pure_x rfl ?hy (fun K hK => ?_); (case hy => rfl); go_simp; refine hK _ _ ?_; clear hK K) | (refine q_pure_u rfl ?hy (fun K hK => ?_); (case hy => rfl); go_simp; refine hK _ _ ?_; clear hK K) | (refine q_pure_y rfl ?hy (fun K hK => ?_); (case hy => rfl); go_simp; refine hK _ _ ?_; clear hK K)
                      first | (refine q_pure_x rfl ?hy (fun K hK => ?_); (case hy => rfl); go_simp; refine hK _ _ ?_; clear hK K) | (refine q_pure_u rfl ?hy (fun K hK => ?_); (case hy => rfl); go_simp; refine hK _ _ ?_; clear hK K) | (refine q_pure_y rfl ?hy (fun K hK => ?_); (case hy => rfl); go_simp; refine hK _ _ ?_; clear hK K)
                      first | (refine q_pure_x rfl ?hy (fun K hK => ?_); (case hy => rfl); go_simp; refine hK _ _ ?_; clear hK K) | (refine q_pure_u rfl ?hy (fun K hK => ?_); (case hy => rfl); go_simp; refine hK _ _ ?_; clear hK K) | (refine q_pure_y rfl ?hy (fun K hK => ?_); (case hy => rfl); go_simp; refine hK _ _ ?_; clear hK K)
                      first | (refine q_pure_x rfl ?hy (fun K hK => ?_); (case hy => rfl); go_simp; refine hK _ _ ?_; clear hK K) | (refine q_pure_u rfl ?hy (fun K hK => ?_); (case hy => rfl); go_simp; refine hK _ _ ?_; clear hK K) | (refine q_pure_y rfl ?hy (fun K hK => ?_); (case hy => rfl); go_simp; refine hK _ _ ?_; clear hK K)
                      first | (refine q_read_x rfl ?hy (fun K hK => ?_); (case hy => rfl); go_simp; refine hK _ _ ?_; clear hK K) | (refine q_read_u rfl ?hy (fun K hK => ?_); (case hy => rfl); go_simp; refine hK _ _ ?_; clear hK K) | (refine q_read_y rfl ?hy (fun K hK => ?_); (case hy => rfl); go_simp; refine hK _ _ ?_; clear hK K)
                      first | (refine q_pure_x rfl ?hy (fun K hK => ?_); (case hy => rfl); go_simp; refine hK _ _ ?_; clear hK K) | (refine q_pure_u rfl ?hy (fun K hK => ?_); (case hy => rfl); go_simp; refine hK _ _ ?_; clear hK K) | (refine q_pure_y rfl ?hy (fun K hK => ?_); (case hy => rfl); go_simp; refine hK _ _ ?_; clear hK K)
                      first | (refine q_pure_x rfl ?hy (fun K hK => ?_); (case hy => rfl); go_simp; refine hK _ _ ?_; clear hK K) | (refine q_pure_u rfl ?hy (fun K hK => ?_); (case hy => rfl); go_simp; refine hK _ _ ?_; clear hK K) | (refine q_pure_y rfl ?hy (fun K hK => ?_); (case hy => rfl); go_simp; refine hK _ _ ?_; clear hK K)
                      (refine q_pure_n rfl (fun K hK => ?_); go_simp; refine hK _ _ ?_; clear hK K)
                      (refine q_pure_n rfl (fun K hK => ?_); go_simp; refine hK _ _ ?_; clear hK K)
                      refine q_nil ?_
                      intro nq
                      go_wp2_with fail
                      refine (HRK.out _).mono ?_
                      rintro e w11 ⟨⟨rk, ok, rfl, hrk⟩, hb11⟩
                      have hok := HOK.out _ _ hrk
                      subst hok
                      have HBq := Lib.hid ((below_drewN HBr.out _).trans (hb11.mono HBr.out.size))
                      clear hrk hb11 HRK HOK
                      go_wp2_with fail
                      exact ⟨⟨k + 1, by omega, by go_num, HBq⟩, by simp [intOf]; omega⟩
                    | true =>
                      rw [h2] at HOK
                      have h3 : decide ((m.1.size : Int) ≤ 65536) = true := by have := of_decide_eq_true h2; exact decide_eq_true (by omega)
                      go_wp2_with fail
                      refine wp_region_q [0,0,0,0,1,0,0,0,0,1,0,0,0,0,0,0,1,0,0,0,0] (by kernel_rfl) (by kernel_rfl) ?_
                      (refine q_pure_n rfl (fun K hK => ?_); go_simp; refine hK _ _ ?_; clear hK K)
                      (refine q_pure_n rfl (fun K hK => ?_); go_simp; refine hK _ _ ?_; clear hK K)
                      (refine q_pure_n rfl (fun K hK => ?_); go_simp; refine hK _ _ ?_; clear hK K)
                      (refine q_pure_n rfl (fun K hK => ?_); go_simp; refine hK _ _ ?_; clear hK K)
                      (refine q_read_n rfl (fun K hK => ?_); go_simp; refine hK _ _ ?_; clear hK K)
                      (refine q_pure_n rfl (fun K hK => ?_); go_simp; refine hK _ _ ?_; clear hK K)
                      (refine q_pure_n rfl (fun K hK => ?_); go_simp; refine hK _ _ ?_; clear hK K)
                      (refine q_pure_n rfl (fun K hK => ?_); go_simp; refine hK _ _ ?_; clear hK K)
                      (refine q_pure_n rfl (fun K hK => ?_); go_simp; refine hK _ _ ?_; clear hK K)
                      (refine q_read_n rfl (fun K hK => ?_); go_simp; refine hK _ _ ?_; clear hK K)
                      (refine q_pure_n rfl (fun K hK => ?_); go_simp; refine hK _ _ ?_; clear hK K)
                      (refine q_pure_n rfl (fun K hK => ?_); go_simp; refine hK _ _ ?_; clear hK K)
                      first | (refine q_pure_x rfl ?hy (fun K hK => ?_); (case hy => rfl); go_simp; refine hK _ _ ?_; clear hK K) | (refine q_pure_u rfl ?hy (fun K hK => ?_); (case hy => rfl); go_simp; refine hK _ _ ?_; clear hK K) | (refine q_pure_y rfl ?hy (fun K hK => ?_); (case hy => rfl); go_simp; refine hK _ _ ?_; clear hK K)
                      first | (refine q_pure_x rfl ?hy (fun K hK => ?_); (case hy => rfl); go_simp; refine hK _ _ ?_; clear hK K) | (refine q_pure_u rfl ?hy (fun K hK => ?_); (case hy => rfl); go_simp; refine hK _ _ ?_; clear hK K) | (refine q_pure_y rfl ?hy (fun K hK => ?_); (case hy => rfl); go_simp; refine hK _ _ ?_; clear hK K)
                      first | (refine q_pure_x rfl ?hy (fun K hK => ?_); (case hy => rfl); go_simp; refine hK _ _ ?_; clear hK K) | (refine q_pure_u rfl ?hy (fun K hK => ?_); (case hy => rfl); go_simp; refine hK _ _ ?_; clear hK K) | (refine q_pure_y rfl ?hy (fun K hK => ?_); (case hy => rfl); go_simp; refine hK _ _ ?_; clear hK K)
                      first | (refine q_pure_x rfl ?hy (fun K hK => ?_); (case hy => rfl); go_simp; refine hK _ _ ?_; clear hK K) | (refine q_pure_u rfl ?hy (fun K hK => ?_); (case hy => rfl); go_simp; refine hK _ _ ?_; clear hK K) | (refine q_pure_y rfl ?hy (fun K hK => ?_); (case hy => rfl); go_simp; refine hK _ _ ?_; clear hK K)
                      first | (refine q_read_x rfl ?hy (fun K hK => ?_); (case hy => rfl); go_simp; refine hK _ _ ?_; clear hK K) | (refine q_read_u rfl ?hy (fun K hK => ?_); (case hy => rfl); go_simp; refine hK _ _ ?_; clear hK K) | (refine q_read_y rfl ?hy (fun K hK => ?_); (case hy => rfl); go_simp; refine hK _ _ ?_; clear hK K)
                      first | (refine q_pure_x rfl ?hy (fun K hK => ?_); (case hy => rfl); go_simp; refine hK _ _ ?_; clear hK K) | (refine q_pure_u rfl ?hy (fun K hK => ?_); (case hy => rfl); go_simp; refine hK _ _ ?_; clear hK K) | (refine q_pure_y rfl ?hy (fun K hK => ?_); (case hy => rfl); go_simp; refine hK _ _ ?_; clear hK K)
                      first | (refine q_pure_x rfl ?hy (fun K hK => ?_); (case hy => rfl); go_simp; refine hK _ _ ?_; clear hK K) | (refine q_pure_u rfl ?hy (fun K hK => ?_); (case hy => rfl); go_simp; refine hK _ _ ?_; clear hK K) | (refine q_pure_y rfl ?hy (fun K hK => ?_); (case hy => rfl); go_simp; refine hK _ _ ?_; clear hK K)
                      (refine q_pure_n rfl (fun K hK => ?_); go_simp; refine hK _ _ ?_; clear hK K)
                      (refine q_pure_n rfl (fun K hK => ?_); go_simp; refine hK _ _ ?_; clear hK K)
                      refine q_nil ?_
                      intro nq
                      go_wp2_with fail
                      refine (HRK.out _).mono ?_
                      rintro e w11 ⟨⟨rk, ok, rfl, hrk⟩, hb11⟩
                      have hok := HOK.out _ _ hrk
                      subst hok
                      have HBq := Lib.hid ((below_drewN HBr.out _).trans (hb11.mono HBr.out.size))
                      clear hrk hb11 HRK HOK
                      go_wp2_with fail
                      exact ⟨⟨k + 1, by omega, by go_num, HBq⟩, by simp [intOf]; omega⟩
                · have HGe := Lib.hid (HG10.out.below HBr.out)
                  have HBe := Lib.hid (HB10.out.trans (HBr.out.mono HB10.out.size))
                  have HMe := Lib.hid (HMA10.out.atB HBr.out)
                  have HBT := Lib.hid (btw_list negF infF false false inf_nums.1 inf_nums.2 HGe.out.sk)
                  rw [btw_all HSR.out] at HBT
                  clear HBr HG10 HB10 HMA10
                  go_wp2_with fail
                  refine (inf_neg _).mono ?_
                  rintro e w12 ⟨rfl, rfl⟩
                  go_wp2_with fail
                  refine (inf_pos _).mono ?_
                  rintro e w12 ⟨rfl, rfl⟩
                  go_wp2_with fail
                  refine HBT.out.mono ?_
                  rintro e w13 ⟨⟨vg, rfl, hmg⟩, hb13⟩
                  have HMG := Lib.hid (mems_memsAt hmg)
                  obtain ⟨Ag, cg, rfl, _⟩ := id HMG.out
                  have HM13 := Lib.hid (HMe.out.atB hb13)
                  have HB13 := Lib.hid (HBe.out.trans (hb13.mono HBe.out.size))
                  have HSS := Lib.hid (same_scoreds_self L _ _ w13 HMG.out HM13.out (by have := HNl.out; have := HN4.out; omega))
                  rw [← HNl.out] at HSS ⊢
                  clear hmg hb13
                  go_wp2_with fail
                  refine HSS.out.mono ?_
                  rintro e w14 ⟨rfl, hb14⟩
                  have HB14 := Lib.hid (HB13.out.trans (hb14.mono HB13.out.size))
                  clear hb14
                  go_wp2_with fail
                  go_ret
                  exact ⟨rfl, HB14.out⟩
end Go.Proofs.YtmlaackdcnpjmaaDoor.Skp
