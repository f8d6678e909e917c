/- Chapter 24: how much a value has in it. Printed by gen_sizev24.py. -/
import Derived.Test.YtpnmhldaaaemeaaSize24
import Derived.Test.YtpnmhldaaaemeaaFine24
namespace Go.Proofs.Ytpnmhldaaaemeaa.Snp
open Go.RowKit Go.Proofs.Ytpnmhldaaaemeaa.Pin

def szEn (e : En) : Nat := szBy szPr e.pairs
/-- each text, each list within bounds -/
structure VaT (v : Va) : Prop where
  text : v.text.size ≤ 140737488351232
  list : ∀ t ∈ v.list, t.size ≤ 140737488351232
  hash : ∀ t ∈ v.hash, t.1.size ≤ 140737488351232 ∧ t.2.size ≤ 140737488351232
  set : ∀ t ∈ v.set, t.size ≤ 140737488351232
  zset : ∀ t ∈ v.zset, t.1.size ≤ 140737488351232
  stream : ∀ e ∈ v.stream, ∀ t ∈ e.pairs, t.1.size ≤ 140737488351232 ∧ t.2.size ≤ 140737488351232
set_option maxHeartbeats 2000000 in
set_option maxRecDepth 100000 in
theorem sz_entries (l : List En) (v : Value) (w : World) (hT : EntriesAt w w.heap.size v l) (hl : l.length ≤ 140737488351232) (hpl : ∀ e ∈ l, e.pairs.length ≤ 140737488351232) (hs : ∀ e ∈ l, ∀ t ∈ e.pairs, t.1.size ≤ 140737488351232 ∧ t.2.size ≤ 140737488351232) : Sized 34 #[v] w 1125899906842624 (szBy szEn l) := by
  obtain ⟨A, c, rfl, hT⟩ := hT
  unfold Sized
  obtain ⟨L, hL⟩ : ∃ L, L = l.length := ⟨_, rfl⟩
  rw [← hL] at hl ⊢
  have HL := Lib.hid hL
  have HT := Lib.hid hT
  have HS := Lib.hid hs
  have HPL := Lib.hid hpl
  clear hL hT hs hpl
  go_enter Try.func34, Try.ntmps34
  go_wp2_with fail
  go_loopw [3, 4] (fun v i wr => ∃ (k n : Nat), k ≤ L ∧ i = .int .i64 k ∧ v = .int .i64 (n : Int) ∧ n ≤ 1125899906842624 ∧ Hid (n ≤ 1048576 → n = szTo szEn l k) ∧ Hid (Below w.heap.size w wr)) (fun _ i _ => L - (intOf i).toNat)
  case atStart => exact ⟨0, L, by omega, rfl, rfl, by omega, Lib.hid (fun _ => by rw [szto_zero]; exact HL.out), Lib.hid (Below.refl _ _)⟩
  case round =>
    obtain ⟨k, n, hk, rfl, rfl, hn, HN, HB⟩ := hrel
    by_cases hlt : k < L
    · have hlt' : (k : Int) < (L : Int) := by omega
      by_cases hm : n ≤ 1048576
      · have hm' : (n : Int) ≤ 1048576 := by omega
        have hks : k < l.length := by rw [← HL.out]; exact hlt
        obtain ⟨r, o, rfl, hr, hc⟩ := HT.out (by have := HL.out; omega)
        have hsx := HS.out _ (List.getElem_mem hks)
        have hpx := HPL.out _ (List.getElem_mem hks)
        obtain ⟨-, -, pv, hcd, hpv⟩ := hc k hks
        have g := (HB.out.cell (p := ⟨r, _, none⟩) hr).trans hcd
        obtain ⟨x, hx⟩ : ∃ x, x = l[k] := ⟨_, rfl⟩
        rw [← hx] at hsx hpx hpv
        have HP : Hid (Sized 32 #[pv] wr 562949953421312 (szEn x)) := Lib.hid (sz_pairs x.pairs pv wr ((hpv.below HB.out).more HB.out.size) hpx hsx)
        have HX := Lib.hid hx
        clear hx hc hcd hpv hsx hpx
        go_wp2_with fail
        refine HP.out.mono ?_
        rintro e w2 ⟨a, rfl, ha, ha2, hb2⟩
        have HA := Lib.hid ha2
        have HB2 : Hid (Below w.heap.size w w2) := Lib.hid (HB.out.trans (hb2.mono HB.out.size))
        clear ha2 hb2
        go_wp2_with fail
        refine ⟨⟨k + 1, n + a, by omega, by go_num, by go_num, by omega, Lib.hid (fun h => ?_), HB2⟩, by simp [intOf]; omega⟩
        rw [szto_succ _ _ hks, ← HX.out, ← HN.out hm, ← HA.out (by omega)]
      · have hm' : ¬ (n : Int) ≤ 1048576 := by omega
        go_wp2_with fail
        go_ret
        exact ⟨n, rfl, hn, fun h => absurd h hm, HB.out⟩
    · have hlt' : ¬ ((k : Int) < (L : Int)) := by omega
      obtain rfl : k = L := by omega
      go_wp2_with fail
      go_ret
      refine ⟨n, rfl, hn, fun h => ?_, HB.out⟩
      rw [HN.out h, HL.out, szto_all]
def szVa (v : Va) : Nat := 1 + v.text.size + szBy (fun s => s.size) v.list + szBy szPr v.hash + szBy (fun s => s.size) v.set + szBy (fun s => s.1.size) v.zset + szBy szEn v.stream
set_option maxHeartbeats 4000000 in
set_option maxRecDepth 100000 in
theorem sz_value (v : Va) (c : Cl) (w : World) (hv : ValAt w w.heap.size c v) (hB : VaB v) (hT : VaT v) : Sized 17 #[vV v c] w 2251799813685248 (szVa v) := by
  have HV := Lib.hid hv
  unfold Sized
  have C0 : Hid (∀ W, Below w.heap.size w W → Sized 31 #[c.lv] W 281474976710656 (szBy (fun s => s.size) v.list)) := Lib.hid (fun W hW => sz_texts v.list _ W ((HV.out.list.below hW).more hW.size) hB.list hT.list)
  have C1 : Hid (∀ W, Below w.heap.size w W → Sized 32 #[c.hv] W 562949953421312 (szBy szPr v.hash)) := Lib.hid (fun W hW => sz_pairs v.hash _ W ((HV.out.hash.below hW).more hW.size) hB.hash hT.hash)
  have C2 : Hid (∀ W, Below w.heap.size w W → Sized 31 #[c.sv] W 281474976710656 (szBy (fun s => s.size) v.set)) := Lib.hid (fun W hW => sz_texts v.set _ W ((HV.out.set.below hW).more hW.size) hB.set hT.set)
  have C3 : Hid (∀ W, Below w.heap.size w W → Sized 33 #[c.zv] W 281474976710656 (szBy (fun s => s.1.size) v.zset)) := Lib.hid (fun W hW => sz_scoreds v.zset _ W ((HV.out.zset.below hW).more hW.size) hB.zset hT.zset)
  have C4 : Hid (∀ W, Below w.heap.size w W → Sized 34 #[c.ev] W 1125899906842624 (szBy szEn v.stream)) := Lib.hid (fun W hW => sz_entries v.stream _ W ((HV.out.stream.below hW).more hW.size) hB.stream hB.pairs hT.stream)
  have htx := hT.text
  clear hv hB hT
  obtain ⟨m0, hm0⟩ : ∃ m, m = 1 + v.text.size := ⟨_, rfl⟩
  have hw0 : IntKind.i64.wrap (1 + (v.text.size : Int)) = (m0 : Int) := by rw [IntKind.wrap_i64]; omega
  have M0 := Lib.hid hm0
  have hm0b : m0 ≤ 140737488351233 := by omega
  clear hm0 htx
  go_enter Try.func17, Try.ntmps17
  go_wp2_with fail
  have hbo := heap_alloc_new w (.cells #[.int .u8 (v.kind : Int), .string v.text, c.lv, c.hv, c.sv, c.zv, c.ev, .int .u64 (v.ms : Int), .int .u64 (v.seq : Int)] 31)
  have HS : Hid ((w.alloc (.cells #[.int .u8 (v.kind : Int), .string v.text, c.lv, c.hv, c.sv, c.zv, c.ev, .int .u64 (v.ms : Int), .int .u64 (v.seq : Int)] 31)).cell? ⟨w.heap.size, 1, none⟩ = some (.string v.text) ∧ (w.alloc (.cells #[.int .u8 (v.kind : Int), .string v.text, c.lv, c.hv, c.sv, c.zv, c.ev, .int .u64 (v.ms : Int), .int .u64 (v.seq : Int)] 31)).cell? ⟨w.heap.size, 2, none⟩ = some c.lv) := Lib.hid ⟨by rw [Lib.cell_of_heap hbo]; rfl, by rw [Lib.cell_of_heap hbo]; rfl⟩
  clear hbo
  refine wp_region_pinS (fun w' => w'.cell? ⟨w.heap.size, 1, none⟩ = some (.string v.text) ∧ w'.cell? ⟨w.heap.size, 2, none⟩ = some c.lv) [0,0,0,0,0,0,2,0,0] (by kernel_rfl) (by kernel_rfl) (fun _ _ h => h) (HS.out) ?_
  (refine pin_pure (fun K hK => ?_); go_simp; refine hK _ _ ?_; clear hK K)
  (refine pin_fixed (fun K hK => ?_); go_simp; refine ⟨.string v.text, fun w => ?_, hK _ _ ?_⟩; (intros; go_simp); clear hK K)
  (refine pin_pure (fun K hK => ?_); go_simp; refine hK _ _ ?_; clear hK K)
  (refine pin_pure (fun K hK => ?_); go_simp; refine hK _ _ ?_; clear hK K)
  (refine pin_pure (fun K hK => ?_); go_simp; refine hK _ _ ?_; clear hK K)
  (refine pin_fixed (fun K hK => ?_); go_simp; refine ⟨c.lv, fun w => ?_, hK _ _ ?_⟩; (intros; go_simp); clear hK K)
  (refine pin_writeS (fun K hK => ?_); go_simp; intro nw; refine (C0.out _ (below_drewN ((Below.refl _ w).alloc (Nat.le_refl _) _) _)).mono ?_; rintro e w2 ⟨a0, rfl, ha0, hs0, hb3⟩; obtain ⟨hbb, hbo⟩ := box_below hb3; clear hb3; obtain ⟨w2, rfl⟩ : ∃ w5, w2 = World.drewN w5 0 := ⟨w2, rfl⟩; have HB2 : Hid (Below w.heap.size w w2) := Lib.hid hbb; have HBO2 : Hid (w2.heap[w.heap.size]? = some (.cells #[.int .u8 (v.kind : Int), .string v.text, c.lv, c.hv, c.sv, c.zv, c.ev, .int .u64 (v.ms : Int), .int .u64 (v.seq : Int)] 31 (0, 0))) := Lib.hid hbo; have HS0 := Lib.hid hs0; obtain ⟨m1, hm1⟩ : ∃ m, m = m0 + a0 := ⟨_, rfl⟩; have hw1 : IntKind.i64.wrap ((m0 : Int) + (a0 : Int)) = (m1 : Int) := (by rw [IntKind.wrap_i64]; omega); have M1 := Lib.hid hm1; have hm1b : m1 ≤ 422212465061889 := (by omega); clear hbb hbo hs0 hm1; refine ⟨_, rfl, _, ⟨_, rfl⟩, hK _ _ ?_ ?_⟩; (exact ⟨by rw [Lib.cell_of_heap HBO2.out]; rfl, by rw [Lib.cell_of_heap HBO2.out]; rfl⟩); clear hK K)
  (refine pin_pure (fun K hK => ?_); go_simp; refine hK _ _ ?_; clear hK K)
  (refine pin_pure (fun K hK => ?_); go_simp; refine hK _ _ ?_; clear hK K)
  refine pin_nil ?_
  intro nq
  have g1 : (w2.drewN nq).cell? ⟨w.heap.size, 3, none⟩ = some c.hv := by rw [Lib.cell_of_heap (show (w2.drewN nq).heap[w.heap.size]? = some (.cells #[.int .u8 (v.kind : Int), .string v.text, c.lv, c.hv, c.sv, c.zv, c.ev, .int .u64 (v.ms : Int), .int .u64 (v.seq : Int)] 31 (0, 0)) from HBO2.out)]; rfl
  by_cases hb1 : ¬ m1 ≤ 1048576
  · have hi1 : ¬ (m1 : Int) ≤ 1048576 := by omega
    go_wp2_with fail
    go_ret
    exact ⟨m1, rfl, by omega, fun h => absurd h hb1, (below_drewN HB2.out nq)⟩
  have hb1 := Classical.not_not.1 hb1
  have hi1 : (m1 : Int) ≤ 1048576 := by omega
  go_wp2_with fail
  refine (C1.out _ (below_drewN HB2.out nq)).mono ?_
  rintro e v1 ⟨a1, rfl, ha1, hs1, hx1⟩
  have HS1 := Lib.hid hs1
  have HB1' : Hid (Below w.heap.size w v1) := Lib.hid ((below_drewN HB2.out nq).trans (hx1.mono (below_drewN HB2.out nq).size))
  have HO1' : Hid (v1.heap[w.heap.size]? = some (.cells #[.int .u8 (v.kind : Int), .string v.text, c.lv, c.hv, c.sv, c.zv, c.ev, .int .u64 (v.ms : Int), .int .u64 (v.seq : Int)] 31 (0, 0))) := Lib.hid ((hx1.block _ (Array.getElem?_eq_some_iff.1 (show (w2.drewN nq).heap[w.heap.size]? = some (.cells #[.int .u8 (v.kind : Int), .string v.text, c.lv, c.hv, c.sv, c.zv, c.ev, .int .u64 (v.ms : Int), .int .u64 (v.seq : Int)] 31 (0, 0)) from HBO2.out)).1).trans HBO2.out)
  clear hs1 hx1 g1
  have g2 : v1.cell? ⟨w.heap.size, 4, none⟩ = some c.sv := by rw [Lib.cell_of_heap (show v1.heap[w.heap.size]? = some (.cells #[.int .u8 (v.kind : Int), .string v.text, c.lv, c.hv, c.sv, c.zv, c.ev, .int .u64 (v.ms : Int), .int .u64 (v.seq : Int)] 31 (0, 0)) from HO1'.out)]; rfl
  by_cases hb2 : ¬ m1 + a1 ≤ 1048576
  · have hi2 : ¬ (m1 : Int) + (a1 : Int) ≤ 1048576 := by omega
    go_wp2_with fail
    go_ret
    exact ⟨m1 + a1, rfl, by omega, fun h => absurd h hb2, HB1'.out⟩
  have hb2 := Classical.not_not.1 hb2
  have hi2 : (m1 : Int) + (a1 : Int) ≤ 1048576 := by omega
  go_wp2_with fail
  refine (C2.out _ HB1'.out).mono ?_
  rintro e v2 ⟨a2, rfl, ha2, hs2, hx2⟩
  have HS2 := Lib.hid hs2
  have HB2' : Hid (Below w.heap.size w v2) := Lib.hid (HB1'.out.trans (hx2.mono HB1'.out.size))
  have HO2' : Hid (v2.heap[w.heap.size]? = some (.cells #[.int .u8 (v.kind : Int), .string v.text, c.lv, c.hv, c.sv, c.zv, c.ev, .int .u64 (v.ms : Int), .int .u64 (v.seq : Int)] 31 (0, 0))) := Lib.hid ((hx2.block _ (Array.getElem?_eq_some_iff.1 (show v1.heap[w.heap.size]? = some (.cells #[.int .u8 (v.kind : Int), .string v.text, c.lv, c.hv, c.sv, c.zv, c.ev, .int .u64 (v.ms : Int), .int .u64 (v.seq : Int)] 31 (0, 0)) from HO1'.out)).1).trans HO1'.out)
  clear hs2 hx2 g2
  have g3 : v2.cell? ⟨w.heap.size, 5, none⟩ = some c.zv := by rw [Lib.cell_of_heap (show v2.heap[w.heap.size]? = some (.cells #[.int .u8 (v.kind : Int), .string v.text, c.lv, c.hv, c.sv, c.zv, c.ev, .int .u64 (v.ms : Int), .int .u64 (v.seq : Int)] 31 (0, 0)) from HO2'.out)]; rfl
  by_cases hb3 : ¬ m1 + a1 + a2 ≤ 1048576
  · have hi3 : ¬ (m1 : Int) + (a1 : Int) + (a2 : Int) ≤ 1048576 := by omega
    go_wp2_with fail
    go_ret
    exact ⟨m1 + a1 + a2, rfl, by omega, fun h => absurd h hb3, HB2'.out⟩
  have hb3 := Classical.not_not.1 hb3
  have hi3 : (m1 : Int) + (a1 : Int) + (a2 : Int) ≤ 1048576 := by omega
  go_wp2_with fail
  refine (C3.out _ HB2'.out).mono ?_
  rintro e v3 ⟨a3, rfl, ha3, hs3, hx3⟩
  have HS3 := Lib.hid hs3
  have HB3' : Hid (Below w.heap.size w v3) := Lib.hid (HB2'.out.trans (hx3.mono HB2'.out.size))
  have HO3' : Hid (v3.heap[w.heap.size]? = some (.cells #[.int .u8 (v.kind : Int), .string v.text, c.lv, c.hv, c.sv, c.zv, c.ev, .int .u64 (v.ms : Int), .int .u64 (v.seq : Int)] 31 (0, 0))) := Lib.hid ((hx3.block _ (Array.getElem?_eq_some_iff.1 (show v2.heap[w.heap.size]? = some (.cells #[.int .u8 (v.kind : Int), .string v.text, c.lv, c.hv, c.sv, c.zv, c.ev, .int .u64 (v.ms : Int), .int .u64 (v.seq : Int)] 31 (0, 0)) from HO2'.out)).1).trans HO2'.out)
  clear hs3 hx3 g3
  have g4 : v3.cell? ⟨w.heap.size, 6, none⟩ = some c.ev := by rw [Lib.cell_of_heap (show v3.heap[w.heap.size]? = some (.cells #[.int .u8 (v.kind : Int), .string v.text, c.lv, c.hv, c.sv, c.zv, c.ev, .int .u64 (v.ms : Int), .int .u64 (v.seq : Int)] 31 (0, 0)) from HO3'.out)]; rfl
  by_cases hb4 : ¬ m1 + a1 + a2 + a3 ≤ 1048576
  · have hi4 : ¬ (m1 : Int) + (a1 : Int) + (a2 : Int) + (a3 : Int) ≤ 1048576 := by omega
    go_wp2_with fail
    go_ret
    exact ⟨m1 + a1 + a2 + a3, rfl, by omega, fun h => absurd h hb4, HB3'.out⟩
  have hb4 := Classical.not_not.1 hb4
  have hi4 : (m1 : Int) + (a1 : Int) + (a2 : Int) + (a3 : Int) ≤ 1048576 := by omega
  go_wp2_with fail
  refine (C4.out _ HB3'.out).mono ?_
  rintro e v4 ⟨a4, rfl, ha4, hs4, hx4⟩
  have HS4 := Lib.hid hs4
  have HB4' : Hid (Below w.heap.size w v4) := Lib.hid (HB3'.out.trans (hx4.mono HB3'.out.size))
  have HO4' : Hid (v4.heap[w.heap.size]? = some (.cells #[.int .u8 (v.kind : Int), .string v.text, c.lv, c.hv, c.sv, c.zv, c.ev, .int .u64 (v.ms : Int), .int .u64 (v.seq : Int)] 31 (0, 0))) := Lib.hid ((hx4.block _ (Array.getElem?_eq_some_iff.1 (show v3.heap[w.heap.size]? = some (.cells #[.int .u8 (v.kind : Int), .string v.text, c.lv, c.hv, c.sv, c.zv, c.ev, .int .u64 (v.ms : Int), .int .u64 (v.seq : Int)] 31 (0, 0)) from HO3'.out)).1).trans HO3'.out)
  clear hs4 hx4 g4
  go_wp2_with fail
  go_ret
  exact ⟨m1 + a1 + a2 + a3 + a4, rfl, by omega, fun h => by have h0 := HS0.out; have h1 := HS1.out (by omega); have h2 := HS2.out (by omega); have h3 := HS3.out (by omega); have h4 := HS4.out (by omega); have h5 := M0.out; have h6 := M1.out; have h7 := h0 (by omega); unfold szVa; omega, HB4'.out⟩
end Go.Proofs.Ytpnmhldaaaemeaa.Snp
