/- Chapter 09: SkipCuts walked. -/
import Derived.Test.YtmlaackdcnpjmaaDoorAllC09
import Derived.Test.YtmlaackdcnpjmaaDoorCutP09
import Derived.Test.YtmlaackdcnpjmaaDoorSz09
namespace Go.Proofs.YtmlaackdcnpjmaaDoor.Skp
open Go Go.RowKit Go.Proofs.YtmlaackdcnpjmaaDoor.Pin Go.Proofs.YtmlaackdcnpjmaaDoor.Flt
attribute [local go_sem high] run_store_F
structure Lw (w : World) (l : List Sc) (v : Value) : Prop where
  at_ : MemsAt w w.heap.size v l
  bits : ∀ m ∈ l, m.2 < 2 ^ 64
  tab : Tab w
theorem MemsAt.atB {w w' : World} {v : Value} {l : List Sc} (h : MemsAt w w.heap.size v l) (hb : Below w.heap.size w w') : MemsAt w' w'.heap.size v l := (h.below hb).more hb.size
theorem Lw.below {w w' : World} {l : List Sc} {v : Value} (h : Lw w l v) (hb : Below w.heap.size w w') : Lw w' l v := ⟨h.at_.atB hb, h.bits, h.tab.below hb⟩
theorem MemsAt.get {w : World} {B : Nat} {A : Option Addr} {n c : Nat} {l : List Sc} (h : MemsAt w B (.slice A n c) l) (k : Nat) (hk : k < l.length) : ∃ r o, A = some ⟨r, o, none⟩ ∧ r < B ∧ w.cell? ⟨r, o + k * 2, none⟩ = some (.string l[k].1) ∧ w.cell? ⟨r, o + k * 2 + 1, none⟩ = some (.float .f64 l[k].2) := by
  obtain ⟨A', c', e, h⟩ := h
  cases e
  obtain ⟨r, o, e1, h1, h2⟩ := h (by omega)
  exact ⟨r, o, e1, h1, h2 k hk⟩
theorem fEq_eqT {a b : Nat} (h : fEq a b = true) : (FloatKind.f64.format.order a b == some Ordering.eq) = true := h
theorem fEq_eqF {a b : Nat} (h : fEq a b = false) : (FloatKind.f64.format.order a b == some Ordering.eq) = false := h
theorem fEq_neqT {a b : Nat} (h : fEq a b = true) : (FloatKind.f64.format.order a b != some Ordering.eq) = false := by rw [bne, fEq_eqT h]; rfl
theorem fEq_neqF {a b : Nat} (h : fEq a b = false) : (FloatKind.f64.format.order a b != some Ordering.eq) = true := by rw [bne, fEq_eqF h]; rfl
theorem fLt_ltT {a b : Nat} (h : fLt a b = true) : (FloatKind.f64.format.order a b == some Ordering.lt) = true := h
theorem fLt_ltF {a b : Nat} (h : fLt a b = false) : (FloatKind.f64.format.order a b == some Ordering.lt) = false := h
theorem fGt_gtT {a b : Nat} (h : fGt a b = true) : (FloatKind.f64.format.order a b == some Ordering.gt) = true := h
theorem fGt_gtF {a b : Nat} (h : fGt a b = false) : (FloatKind.f64.format.order a b == some Ordering.gt) = false := h
theorem cnt_facts {L : List Sc} {p : Sc → Bool} {cnt : Nat → Nat} (h : cnt = fun k => ((L.take k).filter p).length) : cnt 0 = 0 ∧ (∀ k, cnt k ≤ k) ∧ (∀ k (hk : k < L.length), cnt (k + 1) = cnt k + (if p L[k] then 1 else 0)) ∧ (∀ k (hk : k < L.length), p L[k] = true → (L.filter p)[cnt k]? = some L[k]) ∧ cnt L.length = (L.filter p).length := by
  subst h
  refine ⟨by simp, fun k => ?_, fun k hk => filter_step p hk, fun k hk hp => filter_at p hk hp, by simp⟩
  show ((L.take k).filter p).length ≤ k
  have := List.length_filter_le p (L.take k)
  have h2 : (L.take k).length ≤ k := by simp; omega
  omega
/-- Between, whatever its bounds -/
theorem btw_any {w : World} {own : Nat → Prop} {s : Nat} {L : List Sc} (lo hi : Nat) (without within : Bool) (hL : SkL w own s L) :
    Calls Tryd.prog 15 #[.pointer (some ⟨s, 0, none⟩), .float .f64 lo, .float .f64 hi, .bool without, .bool within] w fun e w' => (∃ v, e = .returned v ∧ Mems w' (fun r => w.heap.size ≤ r) v (L.filter (keepB lo hi without within))) ∧ Below w.heap.size w w' := by
  rw [← btwC_keep]
  cases h1 : fEq lo lo with
  | false =>
    refine (btw_nan lo hi without within (.inl h1) hL).mono ?_
    rintro e w' ⟨rfl, hb⟩
    exact ⟨⟨_, rfl, none, 0, rfl, fun h => by simp at h⟩, hb⟩
  | true =>
    cases h2 : fEq hi hi with
    | false =>
      refine (btw_nan lo hi without within (.inr h2) hL).mono ?_
      rintro e w' ⟨rfl, hb⟩
      exact ⟨⟨_, rfl, none, 0, rfl, fun h => by simp at h⟩, hb⟩
    | true => exact btw_list lo hi without within h1 h2 hL

set_option maxHeartbeats 2000000 in
set_option maxRecDepth 100000 in
theorem cuts_any (seed : Nat) (h64 : seed < 2 ^ 64) (l : List Sc) (v : Value) (lo hi : Nat) (without within : Bool) (w : World) (hl : Lw w l v) :
    Calls Tryd.prog 4 #[.int .u64 (seed : Int), v, .agg #[.float .f64 lo, .float .f64 hi, .bool without, .bool within]] w fun e w' => e = .returned (.bool true) ∧ Below w.heap.size w w' := by
  have HB0 := Lib.hid ((Below.refl w.heap.size w).alloc (Nat.le_refl _) (.cells #[.float .f64 lo, .float .f64 hi, .bool without, .bool within] 41))
  have HLW := Lib.hid hl
  have HAL := Lib.hid (fun W (hb : Below w.heap.size w W) => alive_any W (hl.below hb).tab)
  obtain ⟨A, c, rfl, _⟩ := id hl.at_
  obtain ⟨N, hN⟩ : ∃ N, N = l.length := ⟨_, rfl⟩
  have HN := Lib.hid hN
  rw [← hN] at HLW ⊢
  clear hl hN
  by_cases hbig : (300 : Int) < (N : Int)
  · go_enter Tryd.func4, Tryd.ntmps4
    go_wp2_with fail
    refine (HAL.out _ HB0.out).mono ?_
    rintro e w1 ⟨rfl, hb1⟩
    have HB1 := Lib.hid (HB0.out.trans (hb1.mono HB0.out.size))
    clear hb1
    go_wp2_with fail
    refine (HAL.out _ HB1.out).mono ?_
    rintro e w2 ⟨rfl, hb2⟩
    have HB2 := Lib.hid (HB1.out.trans (hb2.mono HB1.out.size))
    clear hb2
    go_wp2_with fail
    go_ret
    exact ⟨rfl, HB2.out⟩
  · go_enter Tryd.func4, Tryd.ntmps4
    go_wp2_with fail
    refine (HAL.out _ HB0.out).mono ?_
    rintro e w1 ⟨rfl, hb1⟩
    have HB1 := Lib.hid (HB0.out.trans (hb1.mono HB0.out.size))
    have HC1 := Lib.hid hb1
    clear hb1
    go_wp2_with fail
    have HNS : Hid (l.length < 1099511627776) := Lib.hid (by have := HN.out; omega)
    have HLW' : Hid (Lw w l (.slice A l.length c)) := Lib.hid (by rw [← HN.out]; exact HLW.out)
    have HSZ := Lib.hid (size_any l (.slice A l.length c) w1 (HLW'.out.below HB1.out).at_ HNS.out)
    rw [← HN.out] at HSZ
    refine HSZ.out.mono ?_
    rintro e w2 ⟨⟨sz, rfl, hz0, hz1⟩, rfl⟩
    have HZ := Lib.hid (And.intro hz0 hz1)
    clear hz0 hz1
    go_wp2_with fail
    refine (beyond_one sz HZ.out.1 HZ.out.2 1 w1.heap.size _ (by rw [Lib.cell_of_heap (World.alloc_heap_new w1 _)]; rfl)).mono ?_
    rintro e w2 ⟨hbe, rfl⟩
    have HC2 := Lib.hid (HC1.out.alloc HC1.out.size (.cells #[.int .i64 sz] 3))
    have HB2 : Hid (Below w.heap.size w (w1.alloc (.cells #[.int .i64 sz] 3))) := Lib.hid (HB1.out.alloc HB1.out.size _)
    have HFI := Lib.hid (fun W (hb : Below w.heap.size w W) => fill_any seed h64 l (.slice A l.length c) W (HLW'.out.below hb).at_ HLW'.out.bits (HLW'.out.below hb).tab HNS.out)
    rw [← HN.out] at HFI
    obtain ⟨be, rfl⟩ := hbe
    cases be with
    | true =>
      go_wp2_with fail
      refine (HAL.out _ HB2.out).mono ?_
      rintro e w3 ⟨rfl, hb2⟩
      have HB3 := Lib.hid (HB2.out.trans (hb2.mono HB2.out.size))
      clear hb2
      go_wp2_with fail
      go_ret
      exact ⟨rfl, HB3.out⟩
    | false =>
      go_wp2_with fail
      refine (HFI.out _ HB2.out).mono ?_
      rintro e w3 ⟨s, own, L, rfl, hfr⟩
      have hG3 : GrR (w1.alloc (.cells #[.int .i64 sz] 3)) s own L w3 := ⟨hfr.sk, hfr.new, hfr.old⟩
      have HLL : Hid (L.length ≤ N) := Lib.hid (by have := hfr.len; rw [HN.out]; exact this)
      have HAA := Lib.hid (all_any w3 hG3.sk (by have := HLL.out; omega))
      have HB3 := Lib.hid (HB2.out.trans (hG3.old.mono HB2.out.size))
      have HC3 := Lib.hid (HC2.out.trans (hG3.old.mono HC2.out.size))
      have HG3 := Lib.hid hG3
      clear hfr hG3
      go_wp2_with fail
      refine HAA.out.mono ?_
      rintro e w4 ⟨⟨va, rfl, hma⟩, hb4⟩
      have HG4 := Lib.hid (HG3.out.below hb4)
      have HB4 := Lib.hid (HB3.out.trans (hb4.mono HB3.out.size))
      have HC4 := Lib.hid (HC3.out.trans (hb4.mono HC3.out.size))
      have HMA := Lib.hid (mems_memsAt hma)
      obtain ⟨Aa, ca, rfl, _⟩ := id HMA.out
      have hcut : w4.heap[w.heap.size]? = some (.cells #[.float .f64 lo, .float .f64 hi, .bool without, .bool within] 41 (0, 0)) := (HC4.out.block _ (by simp)).trans (World.alloc_heap_new w _)
      have c0 : w4.cell? ⟨w.heap.size, 0, none⟩ = some (.float .f64 lo) := by rw [Lib.cell_of_heap hcut]; rfl
      have c1 : w4.cell? ⟨w.heap.size, 1, none⟩ = some (.float .f64 hi) := by rw [Lib.cell_of_heap hcut]; rfl
      have c2 : w4.cell? ⟨w.heap.size, 2, none⟩ = some (.bool without) := by rw [Lib.cell_of_heap hcut]; rfl
      have c3 : w4.cell? ⟨w.heap.size, 3, none⟩ = some (.bool within) := by rw [Lib.cell_of_heap hcut]; rfl
      have HBT := Lib.hid (btw_any lo hi without within HG4.out.sk)
      clear hma hb4
      go_wp2_with fail
      refine HBT.out.mono ?_
      rintro e w5 ⟨⟨vg, rfl, hmg⟩, hb5⟩
      obtain ⟨G, hG⟩ : ∃ G, G = L.filter (keepB lo hi without within) := ⟨_, rfl⟩
      have HGG := Lib.hid hG
      rw [← hG] at hmg
      have HMG := Lib.hid (mems_memsAt hmg)
      obtain ⟨Ag, cg, rfl, _⟩ := id HMG.out
      have HB5 := Lib.hid (HB4.out.trans (hb5.mono HB4.out.size))
      have HMA5 := Lib.hid ((HMA.out.below hb5).more hb5.size)
      have HCU : Hid (w5.heap[w.heap.size]? = some (.cells #[.float .f64 lo, .float .f64 hi, .bool without, .bool within] 41 (0, 0))) := Lib.hid ((hb5.block _ (by have := (Array.getElem?_eq_some_iff.1 hcut).1; exact this)).trans hcut)
      have HSR := Lib.hid HG4.out.sk.srt
      obtain ⟨Nl, hNl⟩ : ∃ Nl, Nl = L.length := ⟨_, rfl⟩
      have HNl := Lib.hid hNl
      obtain ⟨Ng, hNg⟩ : ∃ Ng, Ng = G.length := ⟨_, rfl⟩
      have HNg := Lib.hid hNg
      rw [← hNl, ← hNg]
      obtain ⟨cnt, hcnt⟩ : ∃ cnt : Nat → Nat, cnt = fun k => ((L.take k).filter (keepB lo hi without within)).length := ⟨_, rfl⟩
      have HCN := Lib.hid (cnt_facts hcnt)
      have HNM : Hid (Nl ≤ 1000 ∧ Ng ≤ Nl) := Lib.hid (by
        have h1 := HLL.out
        have h2 : (N : Int) ≤ 300 := by omega
        have h3 : G.length ≤ L.length := by rw [HGG.out]; exact List.length_filter_le _ _
        omega)
      have HCL : Hid (cnt Nl = Ng) := Lib.hid (by rw [HNl.out, HNg.out, HGG.out]; exact HCN.out.2.2.2.2)
      clear hmg hb5 hcut c0 c1 c2 c3 hG hNl hNg hcnt HB0 HAL HLW HLW' HSZ HC1 HZ HC2 HB2 HFI HLL HAA HB3 HC3 HG3 HB4 HC4 HMA HBT HG4 HB1 HNS
      go_wp2_with fail
      go_loopw [10, 11] (fun n i wr => ∃ k : Nat, k ≤ Nl ∧ i = .int .i64 (k : Int) ∧ n = .int .i64 (cnt k : Int) ∧ Hid (Below w5.heap.size w5 wr)) (fun _ i _ => Nl - (intOf i).toNat)
      case atStart => exact ⟨0, Nat.zero_le _, rfl, by rw [HCN.out.1]; rfl, Lib.hid (Below.refl _ _)⟩
      case round =>
        obtain ⟨k, hk, rfl, rfl, HB⟩ := hrel
        by_cases hlt : (k : Int) < (Nl : Int)
        · have hkl : k < L.length := by have := HNl.out; omega
          obtain ⟨r, o, rfl, hr, hx1, hx2⟩ := HMA5.out.get k hkl
          obtain ⟨x, hx⟩ : ∃ x, x = L[k] := ⟨_, rfl⟩
          rw [← hx] at hx1 hx2
          have x1 : wr.cell? ⟨r, o + k * 2, none⟩ = some (.string x.1) := (HB.out.cell (p := ⟨r, _, none⟩) hr).trans hx1
          have x2 : wr.cell? ⟨r, o + k * 2 + 1, none⟩ = some (.float .f64 x.2) := (HB.out.cell (p := ⟨r, _, none⟩) hr).trans hx2
          have hcu : wr.heap[w.heap.size]? = some (.cells #[.float .f64 lo, .float .f64 hi, .bool without, .bool within] 41 (0, 0)) := (HB.out.block _ (Array.getElem?_eq_some_iff.1 HCU.out).1).trans HCU.out
          have c0 : wr.cell? ⟨w.heap.size, 0, none⟩ = some (.float .f64 lo) := by rw [Lib.cell_of_heap hcu]; rfl
          have c1 : wr.cell? ⟨w.heap.size, 1, none⟩ = some (.float .f64 hi) := by rw [Lib.cell_of_heap hcu]; rfl
          have c2 : wr.cell? ⟨w.heap.size, 2, none⟩ = some (.bool without) := by rw [Lib.cell_of_heap hcu]; rfl
          have c3 : wr.cell? ⟨w.heap.size, 3, none⟩ = some (.bool within) := by rw [Lib.cell_of_heap hcu]; rfl
          have HST : Hid (keepB lo hi without within x = false → cnt (k + 1) = cnt k) := Lib.hid (fun h => by rw [HCN.out.2.2.1 k hkl, ← hx, h]; rfl)
          have HSY : Hid (keepB lo hi without within x = true → cnt (k + 1) = cnt k + 1 ∧ G[cnt k]? = some x) := Lib.hid (fun h => by
            refine ⟨?_, ?_⟩
            · rw [HCN.out.2.2.1 k hkl, ← hx, h]; rfl
            · rw [HGG.out, HCN.out.2.2.2.1 k hkl (by rw [← hx]; exact h), hx])
          have hnum : Num x.2 := by rw [hx]; exact (HSR.out.cn _ (List.getElem_mem _)).1
          have hN1 := HNM.out.1
          clear hx1 hx2 hcu
          rcases ways7 lo hi without within hnum with ⟨h1, kk⟩ | ⟨h1, h2, kk⟩ | ⟨h1, h2, h3, kk⟩ | ⟨h1, h2, h3, h4, h5, kk⟩ | ⟨h1, h2, h3, h4, h6, kk⟩ | ⟨h1, h2, h3, h4, h6, h7, h8, kk⟩ | ⟨h1, h2, h3, h4, h6, h7, kk⟩
          · have HK := Lib.hid kk
            clear hx hnum
            have r1 := fEq_neqF h1
            clear h1
            go_wp2_with fail
            exact ⟨⟨k + 1, by omega, by go_num, by rw [HST.out HK.out], HB⟩, by simp [intOf]; omega⟩
          · have HK := Lib.hid kk
            clear hx hnum
            have r1 := fEq_neqT h1
            have r2 := fEq_neqF h2
            clear h1 h2
            go_wp2_with fail
            exact ⟨⟨k + 1, by omega, by go_num, by rw [HST.out HK.out], HB⟩, by simp [intOf]; omega⟩
          · have HK := Lib.hid kk
            clear hx hnum
            have r1 := fEq_neqT h1
            have r2 := fEq_neqT h2
            have r3 := fLt_ltT h3
            clear h1 h2 h3
            go_wp2_with fail
            exact ⟨⟨k + 1, by omega, by go_num, by rw [HST.out HK.out], HB⟩, by simp [intOf]; omega⟩
          · have HK := Lib.hid kk
            clear hx hnum
            have r1 := fEq_neqT h1
            have r2 := fEq_neqT h2
            have r3 := fLt_ltF h3
            have r4 := fEq_eqT h4
            rw [h5] at c2; clear h5
            clear h1 h2 h3 h4
            go_wp2_with fail
            exact ⟨⟨k + 1, by omega, by go_num, by rw [HST.out HK.out], HB⟩, by simp [intOf]; omega⟩
          · have HK := Lib.hid kk
            clear hx hnum
            have r1 := fEq_neqT h1
            have r2 := fEq_neqT h2
            have r3 := fLt_ltF h3
            have r6 := fGt_gtT h6
            clear h1 h2 h3 h6
            rcases h4 with h4 | ⟨h4, h5⟩
            · have r4 := fEq_eqF h4
              go_wp2_with fail
              exact ⟨⟨k + 1, by omega, by go_num, by rw [HST.out HK.out], HB⟩, by simp [intOf]; omega⟩
            · have r4 := fEq_eqT h4
              rw [h5] at c2; clear h5
              go_wp2_with fail
              exact ⟨⟨k + 1, by omega, by go_num, by rw [HST.out HK.out], HB⟩, by simp [intOf]; omega⟩
          · have HK := Lib.hid kk
            clear hx hnum
            have r1 := fEq_neqT h1
            have r2 := fEq_neqT h2
            have r3 := fLt_ltF h3
            have r6 := fGt_gtF h6
            have r7 := fEq_eqT h7
            rw [h8] at c3; clear h8
            clear h1 h2 h3 h6 h7
            rcases h4 with h4 | ⟨h4, h5⟩
            · have r4 := fEq_eqF h4
              go_wp2_with fail
              exact ⟨⟨k + 1, by omega, by go_num, by rw [HST.out HK.out], HB⟩, by simp [intOf]; omega⟩
            · have r4 := fEq_eqT h4
              rw [h5] at c2; clear h5
              go_wp2_with fail
              exact ⟨⟨k + 1, by omega, by go_num, by rw [HST.out HK.out], HB⟩, by simp [intOf]; omega⟩
          · have HK := Lib.hid kk
            clear hx hnum
            have r1 := fEq_neqT h1
            have r2 := fEq_neqT h2
            have r3 := fLt_ltF h3
            have r6 := fGt_gtF h6
            clear h1 h2 h3 h6
            obtain ⟨hcs, hgk⟩ := HSY.out HK.out
            have HCS := Lib.hid hcs
            obtain ⟨hgl, hge⟩ := List.getElem?_eq_some_iff.1 hgk
            obtain ⟨p, q, rfl, hp, hy1, hy2⟩ := HMG.out.get (cnt k) hgl
            rw [hge] at hy1 hy2
            have y1 : wr.cell? ⟨p, q + cnt k * 2, none⟩ = some (.string x.1) := (HB.out.cell (p := ⟨p, _, none⟩) hp).trans hy1
            have y2 : wr.cell? ⟨p, q + cnt k * 2 + 1, none⟩ = some (.float .f64 x.2) := (HB.out.cell (p := ⟨p, _, none⟩) hp).trans hy2
            have HSS := Lib.hid (fun n => same_scored_self x (wr.drewN n))
            have hcl : cnt k < Ng := by rw [HNg.out]; exact hgl
            have hN2 := HNM.out.2
            have hd : decide (Ng ≤ cnt k) = false := by simp; omega
            clear hy1 hy2 hge hgk hcs hgl
            rcases h4 with h4 | ⟨h4, h5⟩
            · have r4 := fEq_eqF h4
              rcases h7 with h7 | ⟨h7, h8⟩
              · have r7 := fEq_eqF h7
                go_wp2_with fail
                refine wp_region_q [0,0,0,0,0,0,0,0,1,0,0,0,1,2,0,0] (by kernel_rfl) (by kernel_rfl) ?_
                (refine q_pure_n rfl (fun K hK => ?_); go_simp; refine hK _ _ ?_; clear hK K)
                (refine q_pure_n rfl (fun K hK => ?_); go_simp; refine hK _ _ ?_; clear hK K)
                (refine q_pure_n rfl (fun K hK => ?_); go_simp; refine hK _ _ ?_; clear hK K)
                (refine q_pure_n rfl (fun K hK => ?_); go_simp; refine hK _ _ ?_; clear hK K)
                (refine q_pure_n rfl (fun K hK => ?_); go_simp; refine hK _ _ ?_; clear hK K)
                first | (refine q_pure_x rfl ?hy (fun K hK => ?_); (case hy => rfl); go_simp; refine hK _ _ ?_; clear hK K) | (refine q_pure_u rfl ?hy (fun K hK => ?_); (case hy => rfl); go_simp; refine hK _ _ ?_; clear hK K) | (refine q_pure_y rfl ?hy (fun K hK => ?_); (case hy => rfl); go_simp; refine hK _ _ ?_; clear hK K)
                first | (refine q_pure_x rfl ?hy (fun K hK => ?_); (case hy => rfl); go_simp; refine hK _ _ ?_; clear hK K) | (refine q_pure_u rfl ?hy (fun K hK => ?_); (case hy => rfl); go_simp; refine hK _ _ ?_; clear hK K) | (refine q_pure_y rfl ?hy (fun K hK => ?_); (case hy => rfl); go_simp; refine hK _ _ ?_; clear hK K)
                first | (refine q_pure_x rfl ?hy (fun K hK => ?_); (case hy => rfl); go_simp; refine hK _ _ ?_; clear hK K) | (refine q_pure_u rfl ?hy (fun K hK => ?_); (case hy => rfl); go_simp; refine hK _ _ ?_; clear hK K) | (refine q_pure_y rfl ?hy (fun K hK => ?_); (case hy => rfl); go_simp; refine hK _ _ ?_; clear hK K)
                first | (refine q_read_x rfl ?hy (fun K hK => ?_); (case hy => rfl); go_simp; refine hK _ _ ?_; clear hK K) | (refine q_read_u rfl ?hy (fun K hK => ?_); (case hy => rfl); go_simp; refine hK _ _ ?_; clear hK K) | (refine q_read_y rfl ?hy (fun K hK => ?_); (case hy => rfl); go_simp; refine hK _ _ ?_; clear hK K)
                first | (refine q_pure_x rfl ?hy (fun K hK => ?_); (case hy => rfl); go_simp; refine hK _ _ ?_; clear hK K) | (refine q_pure_u rfl ?hy (fun K hK => ?_); (case hy => rfl); go_simp; refine hK _ _ ?_; clear hK K) | (refine q_pure_y rfl ?hy (fun K hK => ?_); (case hy => rfl); go_simp; refine hK _ _ ?_; clear hK K)
                first | (refine q_pure_x rfl ?hy (fun K hK => ?_); (case hy => rfl); go_simp; refine hK _ _ ?_; clear hK K) | (refine q_pure_u rfl ?hy (fun K hK => ?_); (case hy => rfl); go_simp; refine hK _ _ ?_; clear hK K) | (refine q_pure_y rfl ?hy (fun K hK => ?_); (case hy => rfl); go_simp; refine hK _ _ ?_; clear hK K)
                first | (refine q_pure_x rfl ?hy (fun K hK => ?_); (case hy => rfl); go_simp; refine hK _ _ ?_; clear hK K) | (refine q_pure_u rfl ?hy (fun K hK => ?_); (case hy => rfl); go_simp; refine hK _ _ ?_; clear hK K) | (refine q_pure_y rfl ?hy (fun K hK => ?_); (case hy => rfl); go_simp; refine hK _ _ ?_; clear hK K)
                first | (refine q_read_x rfl ?hy (fun K hK => ?_); (case hy => rfl); go_simp; refine hK _ _ ?_; clear hK K) | (refine q_read_u rfl ?hy (fun K hK => ?_); (case hy => rfl); go_simp; refine hK _ _ ?_; clear hK K) | (refine q_read_y rfl ?hy (fun K hK => ?_); (case hy => rfl); go_simp; refine hK _ _ ?_; clear hK K)
                first | (refine q_write_x rfl ?hy (fun K hK => ?_); (case hy => rfl); go_simp; refine hK _ _ ?_; clear hK K) | (refine q_write_u rfl ?hy (fun K hK => ?_); (case hy => rfl); go_simp; refine hK _ _ ?_; clear hK K) | (refine q_write_y rfl ?hy (fun K hK => ?_); (case hy => rfl); go_simp; intro nw; refine (HSS.out _).mono ?_; rintro e w6 ⟨rfl, hb6⟩; obtain ⟨w6, rfl⟩ : ∃ w7, w6 = World.drewN w7 0 := ⟨w6, rfl⟩; have HB6 : Hid (Below w5.heap.size w5 w6) := Lib.hid ((below_drewN HB.out _).trans (hb6.mono HB.out.size)); clear hb6; refine ⟨_, rfl, _, ⟨_, rfl⟩, hK _ _ ?_⟩; clear hK K)
                first | (refine q_pure_x rfl ?hy (fun K hK => ?_); (case hy => rfl); go_simp; refine hK _ _ ?_; clear hK K) | (refine q_pure_u rfl ?hy (fun K hK => ?_); (case hy => rfl); go_simp; refine hK _ _ ?_; clear hK K) | (refine q_pure_y rfl ?hy (fun K hK => ?_); (case hy => rfl); go_simp; refine hK _ _ ?_; clear hK K)
                (refine q_pure_n rfl (fun K hK => ?_); go_simp; refine hK _ _ ?_; clear hK K)
                refine q_nil ?_
                intro nq
                go_wp2_with fail
                exact ⟨⟨k + 1, by omega, by go_num, by rw [HCS.out]; go_num, Lib.hid (below_drewN HB6.out _)⟩, by simp [intOf]; omega⟩
              · have r7 := fEq_eqT h7
                rw [h8] at c3; clear h8
                go_wp2_with fail
                refine wp_region_q [0,0,0,0,0,0,0,0,1,0,0,0,1,2,0,0] (by kernel_rfl) (by kernel_rfl) ?_
                (refine q_pure_n rfl (fun K hK => ?_); go_simp; refine hK _ _ ?_; clear hK K)
                (refine q_pure_n rfl (fun K hK => ?_); go_simp; refine hK _ _ ?_; clear hK K)
                (refine q_pure_n rfl (fun K hK => ?_); go_simp; refine hK _ _ ?_; clear hK K)
                (refine q_pure_n rfl (fun K hK => ?_); go_simp; refine hK _ _ ?_; clear hK K)
                (refine q_pure_n rfl (fun K hK => ?_); go_simp; refine hK _ _ ?_; clear hK K)
                first | (refine q_pure_x rfl ?hy (fun K hK => ?_); (case hy => rfl); go_simp; refine hK _ _ ?_; clear hK K) | (refine q_pure_u rfl ?hy (fun K hK => ?_); (case hy => rfl); go_simp; refine hK _ _ ?_; clear hK K) | (refine q_pure_y rfl ?hy (fun K hK => ?_); (case hy => rfl); go_simp; refine hK _ _ ?_; clear hK K)
                first | (refine q_pure_x rfl ?hy (fun K hK => ?_); (case hy => rfl); go_simp; refine hK _ _ ?_; clear hK K) | (refine q_pure_u rfl ?hy (fun K hK => ?_); (case hy => rfl); go_simp; refine hK _ _ ?_; clear hK K) | (refine q_pure_y rfl ?hy (fun K hK => ?_); (case hy => rfl); go_simp; refine hK _ _ ?_; clear hK K)
                first | (refine q_pure_x rfl ?hy (fun K hK => ?_); (case hy => rfl); go_simp; refine hK _ _ ?_; clear hK K) | (refine q_pure_u rfl ?hy (fun K hK => ?_); (case hy => rfl); go_simp; refine hK _ _ ?_; clear hK K) | (refine q_pure_y rfl ?hy (fun K hK => ?_); (case hy => rfl); go_simp; refine hK _ _ ?_; clear hK K)
                first | (refine q_read_x rfl ?hy (fun K hK => ?_); (case hy => rfl); go_simp; refine hK _ _ ?_; clear hK K) | (refine q_read_u rfl ?hy (fun K hK => ?_); (case hy => rfl); go_simp; refine hK _ _ ?_; clear hK K) | (refine q_read_y rfl ?hy (fun K hK => ?_); (case hy => rfl); go_simp; refine hK _ _ ?_; clear hK K)
                first | (refine q_pure_x rfl ?hy (fun K hK => ?_); (case hy => rfl); go_simp; refine hK _ _ ?_; clear hK K) | (refine q_pure_u rfl ?hy (fun K hK => ?_); (case hy => rfl); go_simp; refine hK _ _ ?_; clear hK K) | (refine q_pure_y rfl ?hy (fun K hK => ?_); (case hy => rfl); go_simp; refine hK _ _ ?_; clear hK K)
                first | (refine q_pure_x rfl ?hy (fun K hK => ?_); (case hy => rfl); go_simp; refine hK _ _ ?_; clear hK K) | (refine q_pure_u rfl ?hy (fun K hK => ?_); (case hy => rfl); go_simp; refine hK _ _ ?_; clear hK K) | (refine q_pure_y rfl ?hy (fun K hK => ?_); (case hy => rfl); go_simp; refine hK _ _ ?_; clear hK K)
                first | (refine q_pure_x rfl ?hy (fun K hK => ?_); (case hy => rfl); go_simp; refine hK _ _ ?_; clear hK K) | (refine q_pure_u rfl ?hy (fun K hK => ?_); (case hy => rfl); go_simp; refine hK _ _ ?_; clear hK K) | (refine q_pure_y rfl ?hy (fun K hK => ?_); (case hy => rfl); go_simp; refine hK _ _ ?_; clear hK K)
                first | (refine q_read_x rfl ?hy (fun K hK => ?_); (case hy => rfl); go_simp; refine hK _ _ ?_; clear hK K) | (refine q_read_u rfl ?hy (fun K hK => ?_); (case hy => rfl); go_simp; refine hK _ _ ?_; clear hK K) | (refine q_read_y rfl ?hy (fun K hK => ?_); (case hy => rfl); go_simp; refine hK _ _ ?_; clear hK K)
                first | (refine q_write_x rfl ?hy (fun K hK => ?_); (case hy => rfl); go_simp; refine hK _ _ ?_; clear hK K) | (refine q_write_u rfl ?hy (fun K hK => ?_); (case hy => rfl); go_simp; refine hK _ _ ?_; clear hK K) | (refine q_write_y rfl ?hy (fun K hK => ?_); (case hy => rfl); go_simp; intro nw; refine (HSS.out _).mono ?_; rintro e w6 ⟨rfl, hb6⟩; obtain ⟨w6, rfl⟩ : ∃ w7, w6 = World.drewN w7 0 := ⟨w6, rfl⟩; have HB6 : Hid (Below w5.heap.size w5 w6) := Lib.hid ((below_drewN HB.out _).trans (hb6.mono HB.out.size)); clear hb6; refine ⟨_, rfl, _, ⟨_, rfl⟩, hK _ _ ?_⟩; clear hK K)
                first | (refine q_pure_x rfl ?hy (fun K hK => ?_); (case hy => rfl); go_simp; refine hK _ _ ?_; clear hK K) | (refine q_pure_u rfl ?hy (fun K hK => ?_); (case hy => rfl); go_simp; refine hK _ _ ?_; clear hK K) | (refine q_pure_y rfl ?hy (fun K hK => ?_); (case hy => rfl); go_simp; refine hK _ _ ?_; clear hK K)
                (refine q_pure_n rfl (fun K hK => ?_); go_simp; refine hK _ _ ?_; clear hK K)
                refine q_nil ?_
                intro nq
                go_wp2_with fail
                exact ⟨⟨k + 1, by omega, by go_num, by rw [HCS.out]; go_num, Lib.hid (below_drewN HB6.out _)⟩, by simp [intOf]; omega⟩
            · have r4 := fEq_eqT h4
              rw [h5] at c2; clear h5
              rcases h7 with h7 | ⟨h7, h8⟩
              · have r7 := fEq_eqF h7
                go_wp2_with fail
                refine wp_region_q [0,0,0,0,0,0,0,0,1,0,0,0,1,2,0,0] (by kernel_rfl) (by kernel_rfl) ?_
                (refine q_pure_n rfl (fun K hK => ?_); go_simp; refine hK _ _ ?_; clear hK K)
                (refine q_pure_n rfl (fun K hK => ?_); go_simp; refine hK _ _ ?_; clear hK K)
                (refine q_pure_n rfl (fun K hK => ?_); go_simp; refine hK _ _ ?_; clear hK K)
                (refine q_pure_n rfl (fun K hK => ?_); go_simp; refine hK _ _ ?_; clear hK K)
                (refine q_pure_n rfl (fun K hK => ?_); go_simp; refine hK _ _ ?_; clear hK K)
                first | (refine q_pure_x rfl ?hy (fun K hK => ?_); (case hy => rfl); go_simp; refine hK _ _ ?_; clear hK K) | (refine q_pure_u rfl ?hy (fun K hK => ?_); (case hy => rfl); go_simp; refine hK _ _ ?_; clear hK K) | (refine q_pure_y rfl ?hy (fun K hK => ?_); (case hy => rfl); go_simp; refine hK _ _ ?_; clear hK K)
                first | (refine q_pure_x rfl ?hy (fun K hK => ?_); (case hy => rfl); go_simp; refine hK _ _ ?_; clear hK K) | (refine q_pure_u rfl ?hy (fun K hK => ?_); (case hy => rfl); go_simp; refine hK _ _ ?_; clear hK K) | (refine q_pure_y rfl ?hy (fun K hK => ?_); (case hy => rfl); go_simp; refine hK _ _ ?_; clear hK K)
                first | (refine q_pure_x rfl ?hy (fun K hK => ?_); (case hy => rfl); go_simp; refine hK _ _ ?_; clear hK K) | (refine q_pure_u rfl ?hy (fun K hK => ?_); (case hy => rfl); go_simp; refine hK _ _ ?_; clear hK K) | (refine q_pure_y rfl ?hy (fun K hK => ?_); (case hy => rfl); go_simp; refine hK _ _ ?_; clear hK K)
                first | (refine q_read_x rfl ?hy (fun K hK => ?_); (case hy => rfl); go_simp; refine hK _ _ ?_; clear hK K) | (refine q_read_u rfl ?hy (fun K hK => ?_); (case hy => rfl); go_simp; refine hK _ _ ?_; clear hK K) | (refine q_read_y rfl ?hy (fun K hK => ?_); (case hy => rfl); go_simp; refine hK _ _ ?_; clear hK K)
                first | (refine q_pure_x rfl ?hy (fun K hK => ?_); (case hy => rfl); go_simp; refine hK _ _ ?_; clear hK K) | (refine q_pure_u rfl ?hy (fun K hK => ?_); (case hy => rfl); go_simp; refine hK _ _ ?_; clear hK K) | (refine q_pure_y rfl ?hy (fun K hK => ?_); (case hy => rfl); go_simp; refine hK _ _ ?_; clear hK K)
                first | (refine q_pure_x rfl ?hy (fun K hK => ?_); (case hy => rfl); go_simp; refine hK _ _ ?_; clear hK K) | (refine q_pure_u rfl ?hy (fun K hK => ?_); (case hy => rfl); go_simp; refine hK _ _ ?_; clear hK K) | (refine q_pure_y rfl ?hy (fun K hK => ?_); (case hy => rfl); go_simp; refine hK _ _ ?_; clear hK K)
                first | (refine q_pure_x rfl ?hy (fun K hK => ?_); (case hy => rfl); go_simp; refine hK _ _ ?_; clear hK K) | (refine q_pure_u rfl ?hy (fun K hK => ?_); (case hy => rfl); go_simp; refine hK _ _ ?_; clear hK K) | (refine q_pure_y rfl ?hy (fun K hK => ?_); (case hy => rfl); go_simp; refine hK _ _ ?_; clear hK K)
                first | (refine q_read_x rfl ?hy (fun K hK => ?_); (case hy => rfl); go_simp; refine hK _ _ ?_; clear hK K) | (refine q_read_u rfl ?hy (fun K hK => ?_); (case hy => rfl); go_simp; refine hK _ _ ?_; clear hK K) | (refine q_read_y rfl ?hy (fun K hK => ?_); (case hy => rfl); go_simp; refine hK _ _ ?_; clear hK K)
                first | (refine q_write_x rfl ?hy (fun K hK => ?_); (case hy => rfl); go_simp; refine hK _ _ ?_; clear hK K) | (refine q_write_u rfl ?hy (fun K hK => ?_); (case hy => rfl); go_simp; refine hK _ _ ?_; clear hK K) | (refine q_write_y rfl ?hy (fun K hK => ?_); (case hy => rfl); go_simp; intro nw; refine (HSS.out _).mono ?_; rintro e w6 ⟨rfl, hb6⟩; obtain ⟨w6, rfl⟩ : ∃ w7, w6 = World.drewN w7 0 := ⟨w6, rfl⟩; have HB6 : Hid (Below w5.heap.size w5 w6) := Lib.hid ((below_drewN HB.out _).trans (hb6.mono HB.out.size)); clear hb6; refine ⟨_, rfl, _, ⟨_, rfl⟩, hK _ _ ?_⟩; clear hK K)
                first | (refine q_pure_x rfl ?hy (fun K hK => ?_); (case hy => rfl); go_simp; refine hK _ _ ?_; clear hK K) | (refine q_pure_u rfl ?hy (fun K hK => ?_); (case hy => rfl); go_simp; refine hK _ _ ?_; clear hK K) | (refine q_pure_y rfl ?hy (fun K hK => ?_); (case hy => rfl); go_simp; refine hK _ _ ?_; clear hK K)
                (refine q_pure_n rfl (fun K hK => ?_); go_simp; refine hK _ _ ?_; clear hK K)
                refine q_nil ?_
                intro nq
                go_wp2_with fail
                exact ⟨⟨k + 1, by omega, by go_num, by rw [HCS.out]; go_num, Lib.hid (below_drewN HB6.out _)⟩, by simp [intOf]; omega⟩
              · have r7 := fEq_eqT h7
                rw [h8] at c3; clear h8
                go_wp2_with fail
                refine wp_region_q [0,0,0,0,0,0,0,0,1,0,0,0,1,2,0,0] (by kernel_rfl) (by kernel_rfl) ?_
                (refine q_pure_n rfl (fun K hK => ?_); go_simp; refine hK _ _ ?_; clear hK K)
                (refine q_pure_n rfl (fun K hK => ?_); go_simp; refine hK _ _ ?_; clear hK K)
                (refine q_pure_n rfl (fun K hK => ?_); go_simp; refine hK _ _ ?_; clear hK K)
                (refine q_pure_n rfl (fun K hK => ?_); go_simp; refine hK _ _ ?_; clear hK K)
                (refine q_pure_n rfl (fun K hK => ?_); go_simp; refine hK _ _ ?_; clear hK K)
                first | (refine q_pure_x rfl ?hy (fun K hK => ?_); (case hy => rfl); go_simp; refine hK _ _ ?_; clear hK K) | (refine q_pure_u rfl ?hy (fun K hK => ?_); (case hy => rfl); go_simp; refine hK _ _ ?_; clear hK K) | (refine q_pure_y rfl ?hy (fun K hK => ?_); (case hy => rfl); go_simp; refine hK _ _ ?_; clear hK K)
                first | (refine q_pure_x rfl ?hy (fun K hK => ?_); (case hy => rfl); go_simp; refine hK _ _ ?_; clear hK K) | (refine q_pure_u rfl ?hy (fun K hK => ?_); (case hy => rfl); go_simp; refine hK _ _ ?_; clear hK K) | (refine q_pure_y rfl ?hy (fun K hK => ?_); (case hy => rfl); go_simp; refine hK _ _ ?_; clear hK K)
                first | (refine q_pure_x rfl ?hy (fun K hK => ?_); (case hy => rfl); go_simp; refine hK _ _ ?_; clear hK K) | (refine q_pure_u rfl ?hy (fun K hK => ?_); (case hy => rfl); go_simp; refine hK _ _ ?_; clear hK K) | (refine q_pure_y rfl ?hy (fun K hK => ?_); (case hy => rfl); go_simp; refine hK _ _ ?_; clear hK K)
                first | (refine q_read_x rfl ?hy (fun K hK => ?_); (case hy => rfl); go_simp; refine hK _ _ ?_; clear hK K) | (refine q_read_u rfl ?hy (fun K hK => ?_); (case hy => rfl); go_simp; refine hK _ _ ?_; clear hK K) | (refine q_read_y rfl ?hy (fun K hK => ?_); (case hy => rfl); go_simp; refine hK _ _ ?_; clear hK K)
                first | (refine q_pure_x rfl ?hy (fun K hK => ?_); (case hy => rfl); go_simp; refine hK _ _ ?_; clear hK K) | (refine q_pure_u rfl ?hy (fun K hK => ?_); (case hy => rfl); go_simp; refine hK _ _ ?_; clear hK K) | (refine q_pure_y rfl ?hy (fun K hK => ?_); (case hy => rfl); go_simp; refine hK _ _ ?_; clear hK K)
                first | (refine q_pure_x rfl ?hy (fun K hK => ?_); (case hy => rfl); go_simp; refine hK _ _ ?_; clear hK K) | (refine q_pure_u rfl ?hy (fun K hK => ?_); (case hy => rfl); go_simp; refine hK _ _ ?_; clear hK K) | (refine q_pure_y rfl ?hy (fun K hK => ?_); (case hy => rfl); go_simp; refine hK _ _ ?_; clear hK K)
                first | (refine q_pure_x rfl ?hy (fun K hK => ?_); (case hy => rfl); go_simp; refine hK _ _ ?_; clear hK K) | (refine q_pure_u rfl ?hy (fun K hK => ?_); (case hy => rfl); go_simp; refine hK _ _ ?_; clear hK K) | (refine q_pure_y rfl ?hy (fun K hK => ?_); (case hy => rfl); go_simp; refine hK _ _ ?_; clear hK K)
                first | (refine q_read_x rfl ?hy (fun K hK => ?_); (case hy => rfl); go_simp; refine hK _ _ ?_; clear hK K) | (refine q_read_u rfl ?hy (fun K hK => ?_); (case hy => rfl); go_simp; refine hK _ _ ?_; clear hK K) | (refine q_read_y rfl ?hy (fun K hK => ?_); (case hy => rfl); go_simp; refine hK _ _ ?_; clear hK K)
                first | (refine q_write_x rfl ?hy (fun K hK => ?_); (case hy => rfl); go_simp; refine hK _ _ ?_; clear hK K) | (refine q_write_u rfl ?hy (fun K hK => ?_); (case hy => rfl); go_simp; refine hK _ _ ?_; clear hK K) | (refine q_write_y rfl ?hy (fun K hK => ?_); (case hy => rfl); go_simp; intro nw; refine (HSS.out _).mono ?_; rintro e w6 ⟨rfl, hb6⟩; obtain ⟨w6, rfl⟩ : ∃ w7, w6 = World.drewN w7 0 := ⟨w6, rfl⟩; have HB6 : Hid (Below w5.heap.size w5 w6) := Lib.hid ((below_drewN HB.out _).trans (hb6.mono HB.out.size)); clear hb6; refine ⟨_, rfl, _, ⟨_, rfl⟩, hK _ _ ?_⟩; clear hK K)
                first | (refine q_pure_x rfl ?hy (fun K hK => ?_); (case hy => rfl); go_simp; refine hK _ _ ?_; clear hK K) | (refine q_pure_u rfl ?hy (fun K hK => ?_); (case hy => rfl); go_simp; refine hK _ _ ?_; clear hK K) | (refine q_pure_y rfl ?hy (fun K hK => ?_); (case hy => rfl); go_simp; refine hK _ _ ?_; clear hK K)
                (refine q_pure_n rfl (fun K hK => ?_); go_simp; refine hK _ _ ?_; clear hK K)
                refine q_nil ?_
                intro nq
                go_wp2_with fail
                exact ⟨⟨k + 1, by omega, by go_num, by rw [HCS.out]; go_num, Lib.hid (below_drewN HB6.out _)⟩, by simp [intOf]; omega⟩
        · have ek : k = Nl := by omega
          have hd : ((cnt Nl : Int) == (Ng : Int)) = true := by rw [HCL.out]; simp
          go_wp2_with fail
          go_ret
          exact ⟨rfl, HB5.out.trans (HB.out.mono HB5.out.size)⟩
end Go.Proofs.YtmlaackdcnpjmaaDoor.Skp
