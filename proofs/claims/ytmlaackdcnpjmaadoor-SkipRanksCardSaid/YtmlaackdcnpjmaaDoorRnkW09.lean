/- Chapter 09: SkipRanks walked. -/
import Derived.Test.YtmlaackdcnpjmaaDoorCutW09
import Derived.Test.YtmlaackdcnpjmaaDoorRnkP09
namespace Go.Proofs.YtmlaackdcnpjmaaDoor.Skp
open Go Go.RowKit Go.Proofs.YtmlaackdcnpjmaaDoor.Pin Go.Proofs.YtmlaackdcnpjmaaDoor.Flt
attribute [local go_sem high] run_store_F
theorem del_fr {w wr : World} {s : Nat} {own : Nat → Prop} {L : List Sc} (m : Sc) (h : GrR w s own L wr) (h64 : m.2 < 2 ^ 64) :
    Calls Tryd.prog 19 #[.pointer (some ⟨s, 0, none⟩), scV m] wr fun e w' => ∃ ok L', e = .returned (.bool ok) ∧ DelL L m ok L' ∧ GrR w s own L' w' ∧ Frm own wr w' := by
  refine (del_list m h.sk h64).mono ?_
  rintro e w' ⟨ok, L', rfl, hp, hs, hf⟩
  exact ⟨ok, L', rfl, hp, ⟨hs, h.new, old_frm h.new h.old hf⟩, hf⟩
set_option maxHeartbeats 4000000 in
set_option maxRecDepth 100000 in
theorem ranks_any (seed : Nat) (h64 : seed < 2 ^ 64) (l : List Sc) (v : Value) (odd : Bool) (w : World) (hl : Lw w l v) :
    Calls Tryd.prog 5 #[.int .u64 (seed : Int), v, .bool odd] w fun e w' => e = .returned (.bool true) ∧ Below w.heap.size w w' := by
  have HB0 := Lib.hid (Below.refl w.heap.size w)
  have HLW := Lib.hid hl
  have HAL := Lib.hid (fun W (hb : Below w.heap.size w W) => alive_any W (hl.below hb).tab)
  obtain ⟨A, c, rfl, _⟩ := id hl.at_
  obtain ⟨N, hN⟩ : ∃ N, N = l.length := ⟨_, rfl⟩
  have HN := Lib.hid hN
  rw [← hN] at HLW ⊢
  clear hl hN
  by_cases hbig : (200 : Int) < (N : Int)
  · go_enter Tryd.func5, Tryd.ntmps5
    go_wp2_with fail
    refine (HAL.out _ HB0.out).mono ?_
    rintro e w1 ⟨rfl, hb1⟩
    have HB1 := Lib.hid (HB0.out.trans (hb1.mono HB0.out.size))
    clear hb1
    go_wp2_with fail
    refine (HAL.out _ HB1.out).mono ?_
    rintro e w2 ⟨rfl, hb2⟩
    have HB2 := Lib.hid (HB1.out.trans (hb2.mono HB1.out.size))
    clear hb2
    go_wp2_with fail
    go_ret
    exact ⟨rfl, HB2.out⟩
  · go_enter Tryd.func5, Tryd.ntmps5
    go_wp2_with fail
    refine (HAL.out _ HB0.out).mono ?_
    rintro e w1 ⟨rfl, hb1⟩
    have HB1 := Lib.hid (HB0.out.trans (hb1.mono HB0.out.size))
    clear hb1
    go_wp2_with fail
    have HNS : Hid (l.length < 1099511627776) := Lib.hid (by have := HN.out; omega)
    have HLW' : Hid (Lw w l (.slice A l.length c)) := Lib.hid (by rw [← HN.out]; exact HLW.out)
    have HSZ := Lib.hid (size_any l (.slice A l.length c) w1 (HLW'.out.below HB1.out).at_ HNS.out)
    rw [← HN.out] at HSZ
    refine HSZ.out.mono ?_
    rintro e w2 ⟨⟨sz, rfl, hz0, hz1⟩, rfl⟩
    have HZ := Lib.hid (And.intro hz0 hz1)
    clear hz0 hz1
    go_wp2_with fail
    refine (beyond_one sz HZ.out.1 HZ.out.2 1 w1.heap.size _ (by rw [Lib.cell_of_heap (World.alloc_heap_new w1 _)]; rfl)).mono ?_
    rintro e w2 ⟨hbe, rfl⟩
    have HB2 : Hid (Below w.heap.size w (w1.alloc (.cells #[.int .i64 sz] 3))) := Lib.hid (HB1.out.alloc HB1.out.size _)
    have HFI := Lib.hid (fun W (hb : Below w.heap.size w W) => fill_any seed h64 l (.slice A l.length c) W (HLW'.out.below hb).at_ HLW'.out.bits (HLW'.out.below hb).tab HNS.out)
    rw [← HN.out] at HFI
    obtain ⟨be, rfl⟩ := hbe
    cases be with
    | true =>
      go_wp2_with fail
      refine (HAL.out _ HB2.out).mono ?_
      rintro e w3 ⟨rfl, hb2⟩
      have HB3 := Lib.hid (HB2.out.trans (hb2.mono HB2.out.size))
      clear hb2
      go_wp2_with fail
      go_ret
      exact ⟨rfl, HB3.out⟩
    | false =>
      go_wp2_with fail
      refine (HFI.out _ HB2.out).mono ?_
      rintro e w3 ⟨s, own, L, rfl, hfr⟩
      have hG3 : GrR (w1.alloc (.cells #[.int .i64 sz] 3)) s own L w3 := ⟨hfr.sk, hfr.new, hfr.old⟩
      have HLL : Hid (L.length ≤ N) := Lib.hid (by have := hfr.len; rw [HN.out]; exact this)
      have HB3 := Lib.hid (HB2.out.trans (hG3.old.mono HB2.out.size))
      have HG3 := Lib.hid hG3
      have HN3 : Hid (N ≤ 200) := Lib.hid (by omega)
      obtain ⟨w0, hw0⟩ : ∃ w0, w0 = w1.alloc (.cells #[.int .i64 sz] 3) := ⟨_, rfl⟩
      rw [← hw0] at HG3 HB2
      clear hfr hG3 hw0 HSZ HFI HZ HAL HB0 HB1 HLW HLW' HNS HB3
      go_wp2_with fail
      go_loopw [8] (fun i wr => ∃ (t : Nat) (own : Nat → Prop) (L : List Sc), t ≤ 2 ∧ i = .int .i64 (t : Int) ∧ Hid (GrR w0 s own L wr) ∧ Hid (L.length ≤ N)) (fun i _ => 2 - (intOf i).toNat)
      case atStart => exact ⟨0, own, L, by omega, rfl, HG3, HLL⟩
      case round =>
        obtain ⟨t, own, L, ht, rfl, HG, HLL⟩ := hrel
        clear HG3
        by_cases hlt : (t : Int) < 2
        · obtain ⟨own2, ho2⟩ : ∃ own2, own2 = fun r => own r ∧ r < wr.heap.size := ⟨_, rfl⟩
          have HGa : Hid (GrR w0 s own2 L wr) := Lib.hid (by rw [ho2]; exact ⟨HG.out.sk.cut, fun r h => HG.out.new r h.1, HG.out.old⟩)
          have HOW : Hid (∀ r, own2 r → r < wr.heap.size) := Lib.hid (by rw [ho2]; exact fun r h => h.2)
          have HAA := Lib.hid (all_any wr HGa.out.sk (by have := HLL.out; have := HN3.out; omega))
          clear HG ho2
          go_wp2_with fail
          refine HAA.out.mono ?_
          rintro e w4 ⟨⟨va, rfl, hma⟩, hb4⟩
          have HMO := Lib.hid (mems_memsO HOW.out hma)
          obtain ⟨Aa, ca, rfl, _⟩ := id HMO.out
          have HGb := Lib.hid (HGa.out.below hb4)
          have HSR := Lib.hid HGb.out.sk.srt
          obtain ⟨Nl, hNl⟩ : ∃ Nl, Nl = L.length := ⟨_, rfl⟩
          have HNl := Lib.hid hNl
          have HN4 : Hid (Nl ≤ 200) := Lib.hid (by have := HLL.out; have := HN3.out; omega)
          rw [← hNl]
          clear hma hb4 hNl HAA HGa
          go_wp2_with fail
          go_loopw [10] (fun i wq => ∃ k : Nat, k ≤ Nl ∧ i = .int .i64 (k : Int) ∧ Hid (Below w4.heap.size w4 wq)) (fun i _ => Nl - (intOf i).toNat)
          case atStart => exact ⟨0, Nat.zero_le _, rfl, Lib.hid (Below.refl _ _)⟩
          case round =>
            obtain ⟨k, hk, rfl, HBq⟩ := hrel
            have hN4 := HN4.out
            by_cases hlk : (k : Int) < (Nl : Int)
            · have hkl : k < L.length := by have := HNl.out; omega
              obtain ⟨r, rfl, hr, hno, px1, px2⟩ := HMO.out.get k hkl
              have HRA := Lib.hid (fun (r : Int) (ok : Bool) (h : RankL L L[k] r ok) => rank_at HSR.out hkl h)
              have HXL : Hid (L[k].2 < 2 ^ 64) := Lib.hid (HSR.out.at_ hkl).lt
              have HAT := Lib.hid (fun W (hb : Below w4.heap.size w4 W) => at_list k hkl (HGb.out.below hb).sk)
              obtain ⟨x, hx⟩ : ∃ x, x = L[k] := ⟨_, rfl⟩
              rw [← hx] at px1 px2 HRA HXL HAT
              have x1 : ∀ W, Below w4.heap.size w4 W → W.cell? ⟨r, k * 2, none⟩ = some (.string x.1) := fun W hb => (hb.cell (p := ⟨r, _, none⟩) hr).trans px1
              have x2 : ∀ W, Below w4.heap.size w4 W → W.cell? ⟨r, k * 2 + 1, none⟩ = some (.float .f64 x.2) := fun W hb => (hb.cell (p := ⟨r, _, none⟩) hr).trans px2
              have X1 := Lib.hid x1
              have X2 := Lib.hid x2
              have a1 := x1 wr HBq.out
              have a2 := x2 wr HBq.out
              have HRK := Lib.hid (rank_list x (HGb.out.below HBq.out).sk HXL.out)
              clear px1 px2 hx x1 x2 hr hno
              go_wp2_with fail
              refine HRK.out.mono ?_
              rintro e w5 ⟨⟨rk, ok, rfl, hrk⟩, hb5⟩
              obtain ⟨rfl, rfl⟩ := HRA.out _ _ hrk
              have HBr := Lib.hid (HBq.out.trans (hb5.mono HBq.out.size))
              clear hrk hb5 HRK HRA a1 a2 HBq
              go_wp2_with fail
              refine (HAT.out _ HBr.out).mono ?_
              rintro e w6 ⟨rfl, hb6⟩
              have HBs := Lib.hid (HBr.out.trans (hb6.mono HBr.out.size))
              clear hb6 HAT HBr
              go_wp2_with fail
              obtain ⟨w7, hw7⟩ : ∃ w7, w7 = w6.alloc (.cells #[.string x.1, .float .f64 x.2] 31) := ⟨_, rfl⟩
              rw [← hw7]
              have HBt : Hid (Below w4.heap.size w4 w7) := Lib.hid (by rw [hw7]; exact HBs.out.alloc HBs.out.size _)
              have c1 : w7.cell? ⟨w6.heap.size, 0, none⟩ = some (.string x.1) := by rw [hw7, Lib.cell_of_heap (World.alloc_heap_new w6 _)]; rfl
              have c2 : w7.cell? ⟨w6.heap.size, 1, none⟩ = some (.float .f64 x.2) := by rw [hw7, Lib.cell_of_heap (World.alloc_heap_new w6 _)]; rfl
              have b1 := X1.out _ HBt.out
              have b2 := X2.out _ HBt.out
              have HSS := Lib.hid (fun n => same_scored_self x (w7.drewN n))
              clear hw7 HBs
              refine wp_region_q [0,0,0,0,0,0,0,0,0,0,0,0,1,0,0,0,1,2,0,0] (by kernel_rfl) (by kernel_rfl) ?_
              (refine q_pure_n rfl (fun K hK => ?_); go_simp; refine hK _ _ ?_; clear hK K)
              (refine q_pure_n rfl (fun K hK => ?_); go_simp; refine hK _ _ ?_; clear hK K)
              (refine q_pure_n rfl (fun K hK => ?_); go_simp; refine hK _ _ ?_; clear hK K)
              first | (refine q_pure_x rfl ?hy (fun K hK => ?_); (case hy => rfl); go_simp; refine hK _ _ ?_; clear hK K) | (refine q_pure_u rfl ?hy (fun K hK => ?_); (case hy => rfl); go_simp; refine hK _ _ ?_; clear hK K) | (refine q_pure_y rfl ?hy (fun K hK => ?_); (case hy => rfl); go_simp; refine hK _ _ ?_; clear hK K)
              first | (refine q_pure_x rfl ?hy (fun K hK => ?_); (case hy => rfl); go_simp; refine hK _ _ ?_; clear hK K) | (refine q_pure_u rfl ?hy (fun K hK => ?_); (case hy => rfl); go_simp; refine hK _ _ ?_; clear hK K) | (refine q_pure_y rfl ?hy (fun K hK => ?_); (case hy => rfl); go_simp; refine hK _ _ ?_; clear hK K)
              (refine q_pure_n rfl (fun K hK => ?_); go_simp; refine hK _ _ ?_; clear hK K)
              (refine q_pure_n rfl (fun K hK => ?_); go_simp; refine hK _ _ ?_; clear hK K)
              first | (refine q_pure_x rfl ?hy (fun K hK => ?_); (case hy => rfl); go_simp; refine hK _ _ ?_; clear hK K) | (refine q_pure_u rfl ?hy (fun K hK => ?_); (case hy => rfl); go_simp; refine hK _ _ ?_; clear hK K) | (refine q_pure_y rfl ?hy (fun K hK => ?_); (case hy => rfl); go_simp; refine hK _ _ ?_; clear hK K)
              first | (refine q_pure_x rfl ?hy (fun K hK => ?_); (case hy => rfl); go_simp; refine hK _ _ ?_; clear hK K) | (refine q_pure_u rfl ?hy (fun K hK => ?_); (case hy => rfl); go_simp; refine hK _ _ ?_; clear hK K) | (refine q_pure_y rfl ?hy (fun K hK => ?_); (case hy => rfl); go_simp; refine hK _ _ ?_; clear hK K)
              first | (refine q_pure_x rfl ?hy (fun K hK => ?_); (case hy => rfl); go_simp; refine hK _ _ ?_; clear hK K) | (refine q_pure_u rfl ?hy (fun K hK => ?_); (case hy => rfl); go_simp; refine hK _ _ ?_; clear hK K) | (refine q_pure_y rfl ?hy (fun K hK => ?_); (case hy => rfl); go_simp; refine hK _ _ ?_; clear hK K)
              (refine q_pure_n rfl (fun K hK => ?_); go_simp; refine hK _ _ ?_; clear hK K)
              (refine q_pure_n rfl (fun K hK => ?_); go_simp; refine hK _ _ ?_; clear hK K)
              first | (refine q_read_x rfl ?hy (fun K hK => ?_); (case hy => rfl); go_simp; refine hK _ _ ?_; clear hK K) | (refine q_read_u rfl ?hy (fun K hK => ?_); (case hy => rfl); go_simp; refine hK _ _ ?_; clear hK K) | (refine q_read_y rfl ?hy (fun K hK => ?_); (case hy => rfl); go_simp; refine hK _ _ ?_; clear hK K)
              first | (refine q_pure_x rfl ?hy (fun K hK => ?_); (case hy => rfl); go_simp; refine hK _ _ ?_; clear hK K) | (refine q_pure_u rfl ?hy (fun K hK => ?_); (case hy => rfl); go_simp; refine hK _ _ ?_; clear hK K) | (refine q_pure_y rfl ?hy (fun K hK => ?_); (case hy => rfl); go_simp; refine hK _ _ ?_; clear hK K)
              first | (refine q_pure_x rfl ?hy (fun K hK => ?_); (case hy => rfl); go_simp; refine hK _ _ ?_; clear hK K) | (refine q_pure_u rfl ?hy (fun K hK => ?_); (case hy => rfl); go_simp; refine hK _ _ ?_; clear hK K) | (refine q_pure_y rfl ?hy (fun K hK => ?_); (case hy => rfl); go_simp; refine hK _ _ ?_; clear hK K)
              first | (refine q_pure_x rfl ?hy (fun K hK => ?_); (case hy => rfl); go_simp; refine hK _ _ ?_; clear hK K) | (refine q_pure_u rfl ?hy (fun K hK => ?_); (case hy => rfl); go_simp; refine hK _ _ ?_; clear hK K) | (refine q_pure_y rfl ?hy (fun K hK => ?_); (case hy => rfl); go_simp; refine hK _ _ ?_; clear hK K)
              first | (refine q_read_x rfl ?hy (fun K hK => ?_); (case hy => rfl); go_simp; refine hK _ _ ?_; clear hK K) | (refine q_read_u rfl ?hy (fun K hK => ?_); (case hy => rfl); go_simp; refine hK _ _ ?_; clear hK K) | (refine q_read_y rfl ?hy (fun K hK => ?_); (case hy => rfl); go_simp; refine hK _ _ ?_; clear hK K)
              first | (refine q_write_x rfl ?hy (fun K hK => ?_); (case hy => rfl); go_simp; refine hK _ _ ?_; clear hK K) | (refine q_write_u rfl ?hy (fun K hK => ?_); (case hy => rfl); go_simp; refine hK _ _ ?_; clear hK K) | (refine q_write_y rfl ?hy (fun K hK => ?_); (case hy => rfl); go_simp; intro nw; refine (HSS.out _).mono ?_; rintro e w8 ⟨rfl, hb8⟩; obtain ⟨w8, rfl⟩ : ∃ w9, w8 = World.drewN w9 0 := ⟨w8, rfl⟩; have HB8 : Hid (Below w4.heap.size w4 w8) := Lib.hid ((below_drewN HBt.out _).trans (hb8.mono HBt.out.size)); clear hb8; refine ⟨_, rfl, _, ⟨_, rfl⟩, hK _ _ ?_⟩; clear hK K)
              first | (refine q_pure_x rfl ?hy (fun K hK => ?_); (case hy => rfl); go_simp; refine hK _ _ ?_; clear hK K) | (refine q_pure_u rfl ?hy (fun K hK => ?_); (case hy => rfl); go_simp; refine hK _ _ ?_; clear hK K) | (refine q_pure_y rfl ?hy (fun K hK => ?_); (case hy => rfl); go_simp; refine hK _ _ ?_; clear hK K)
              (refine q_pure_n rfl (fun K hK => ?_); go_simp; refine hK _ _ ?_; clear hK K)
              refine q_nil ?_
              intro nq
              go_wp2_with fail
              exact ⟨⟨k + 1, by omega, by go_num, Lib.hid (below_drewN HB8.out _)⟩, by simp [intOf]; omega⟩
            · have HBr := HBq
              have HGc := Lib.hid (HGb.out.below HBr.out)
              have HMc := Lib.hid (HMO.out.below HBr.out)
              have HAN := Lib.hid (at_none (Nl : Int) (.inr (by have := HNl.out; omega)) HGc.out.sk)
              clear HBr HGb HMO
              go_wp2_with fail
              refine HAN.out.mono ?_
              rintro e w5 ⟨rfl, hb5⟩
              have HGd := Lib.hid (HGc.out.below hb5)
              have HMd := Lib.hid (HMc.out.below hb5)
              clear hb5 HGc HMc HAN
              go_wp2_with fail
              obtain ⟨w6, hw6⟩ : ∃ w6, w6 = w5.alloc (.cells zSc 31) := ⟨_, rfl⟩
              rw [← hw6]
              have HBz : Hid (Below w5.heap.size w5 w6) := Lib.hid (by rw [hw6]; exact (Below.refl _ _).alloc (Nat.le_refl _) _)
              have HGe := Lib.hid (HGd.out.below HBz.out)
              have HMe := Lib.hid (HMd.out.below HBz.out)
              have HLE := Lib.hid (len_list HGe.out.sk)
              rw [← HNl.out] at HLE
              clear hw6 HBz HGd HMd
              refine HLE.out.mono ?_
              rintro e w9 ⟨rfl, rfl⟩
              go_wp2_with fail
              refine (check_list HGe.out.sk).mono ?_
              rintro e w7 ⟨rfl, hb7⟩
              have HGf := Lib.hid (HGe.out.below hb7)
              have HMf := Lib.hid (HMe.out.below hb7)
              obtain ⟨sel, hsel⟩ : ∃ sel : Nat → Bool, sel = fun k : Nat => (((k : Int) % 2 == 1) == odd) := ⟨_, rfl⟩
              have HSE := Lib.hid hsel
              clear hb7 HGe HMe HLE hsel
              go_wp2_with fail
              go_loopw [17, 18] (fun gn i wq => ∃ (k g : Nat) (L' : List Sc), k ≤ Nl ∧ i = .int .i64 (k : Int) ∧ gn = .int .i64 (g : Int) ∧ Hid (DelS L sel k g L') ∧ Hid (GrR w0 s own2 L' wq) ∧ Hid (MemsO wq own2 (.slice Aa Nl ca) L)) (fun _ i _ => Nl - (intOf i).toNat)
              case atStart => exact ⟨0, 0, L, Nat.zero_le _, rfl, rfl, Lib.hid (DelS.zero L sel), HGf, by rw [HNl.out]; exact HMf⟩
              case round =>
                obtain ⟨k, g, L', hk, rfl, rfl, HD, HGq, HMq⟩ := hrel
                clear HGf HMf
                have hN4 := HN4.out
                by_cases hlk : (k : Int) < (Nl : Int)
                · have hkl : k < L.length := by have := HNl.out; omega
                  have hgk : g ≤ k := HD.out.few
                  cases hs : sel k with
                  | false =>
                    have r1 : (((k : Int) % 2 == 1) == odd) = false := by rw [← hs, HSE.out]
                    have HDn := Lib.hid (HD.out.skip hs)
                    clear hs
                    go_wp2_with fail
                    exact ⟨⟨k + 1, g, L', by omega, by go_num, rfl, HDn, HGq, HMq⟩, by simp [intOf]; omega⟩
                  | true =>
                    have r1 : (((k : Int) % 2 == 1) == odd) = true := by rw [← hs, HSE.out]
                    have HMq' : Hid (MemsO wr own2 (.slice Aa L.length ca) L) := Lib.hid (by rw [← HNl.out]; exact HMq.out)
                    obtain ⟨r, rfl, hr, hno, px1, px2⟩ := HMq.out.get k hkl
                    have HXL : Hid (L[k].2 < 2 ^ 64) := Lib.hid (HSR.out.at_ hkl).lt
                    have HD1 := Lib.hid (fun (L2 : List Sc) (ok : Bool) (h : DelL L' L[k] ok L2) => HD.out.del HSR.out hkl hs h)
                    have HD2 := Lib.hid (fun (L2 L3 : List Sc) (ok : Bool) (h : DelS L sel (k + 1) (g + 1) L2) (h2 : DelL L2 L[k] ok L3) => h.gone HSR.out hkl hs h2)
                    obtain ⟨x, hx⟩ : ∃ x, x = L[k] := ⟨_, rfl⟩
                    rw [← hx] at px1 px2 HXL HD1 HD2
                    have HFR := Lib.hid (fun W (hf : Frm own2 wr W) => And.intro ((hf.cell hr hno).trans px1) ((hf.cell hr hno).trans px2))
                    have HDL := Lib.hid (del_fr x HGq.out HXL.out)
                    clear hs hx HD
                    go_wp2_with fail
                    refine HDL.out.mono ?_
                    rintro e w8 ⟨ok, L2, rfl, hd, hg8, hf8⟩
                    obtain ⟨rfl, hs2⟩ := HD1.out _ _ hd
                    have HS2 := Lib.hid hs2
                    have HG8 := Lib.hid hg8
                    have HF8 := Lib.hid hf8
                    have HDM := Lib.hid (del_fr x hg8 HXL.out)
                    obtain ⟨b1, b2⟩ := HFR.out w8 hf8
                    clear hd hs2 hg8 hf8 HD1 HGq px1 px2 HDL HFR
                    go_wp2_with fail
                    refine HDM.out.mono ?_
                    rintro e w9 ⟨ok, L3, rfl, hd, hg9, hf9⟩
                    obtain ⟨rfl, e3⟩ := HD2.out _ _ _ HS2.out hd
                    have HG9 : Hid (GrR w0 s own2 L2 w9) := Lib.hid (by rw [← e3]; exact hg9)
                    have HM9 := Lib.hid ((HMq.out.frm HF8.out).frm hf9)
                    clear hd hg9 hf9 e3 HD2 HG8 HF8 HDM HMq HMq' b1 b2
                    go_wp2_with fail
                    exact ⟨⟨k + 1, g + 1, L2, by omega, by go_num, by go_num, HS2, HG9, HM9⟩, by simp [intOf]; omega⟩
                · have ek : k = Nl := by omega
                  have HLQ := Lib.hid (len_list HGq.out.sk)
                  have hle : L'.length + g = Nl := by rw [HNl.out]; exact HD.out.len
                  obtain ⟨M, hM⟩ : ∃ M, M = L'.length := ⟨_, rfl⟩
                  rw [← hM] at HLQ hle
                  have HMN : Hid (L'.length ≤ N) := Lib.hid (by have := HLL.out; have := HNl.out; omega)
                  have hsub : (Nl : Int) - (g : Int) = (M : Int) := by omega
                  have hgN : g ≤ Nl := by omega
                  go_wp2_with fail
                  refine HLQ.out.mono ?_
                  rintro e w9 ⟨rfl, rfl⟩
                  go_wp2_with fail
                  exact ⟨⟨t + 1, own2, L', by omega, by go_num, HGq, HMN⟩, by simp [intOf]; omega⟩
        · go_wp2_with fail
          go_ret
          exact ⟨rfl, HB2.out.trans (HG.out.old.mono HB2.out.size)⟩
end Go.Proofs.YtmlaackdcnpjmaaDoor.Skp
