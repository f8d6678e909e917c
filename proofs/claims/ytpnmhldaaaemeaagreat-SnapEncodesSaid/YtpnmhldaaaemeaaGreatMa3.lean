import Derived.Test.YtpnmhldaaaemeaaGreatMa2
import Derived.Test.YtpnmhldaaaemeaaGreatMa0
import Derived.WalkLawsBesides
/- Chapter 24: copies of values. Printed by gen_twinb24.py value. -/
namespace Go.Proofs.YtpnmhldaaaemeaaGreat.Snp
open Go.RowKit Go.Proofs.YtpnmhldaaaemeaaGreat.Pin
theorem size_value : (Tryz.prog.info? 42).map (·.size) = some 9 := by kernel_rfl
set_option maxHeartbeats 1000000 in
set_option maxRecDepth 100000 in
theorem twin_value (x : Va) (v0 : Value) (v1 : Value) (v2 : Value) (v3 : Value) (v4 : Value) (w : World) (h0 : TextsAt w w.heap.size v0 x.list) (l0 : (x.list).length ≤ 1048576) (h1 : PairsAt w w.heap.size v1 x.hash) (l1 : (x.hash).length ≤ 1048576) (h2 : TextsAt w w.heap.size v2 x.set) (l2 : (x.set).length ≤ 1048576) (h3 : ScoredsAt w w.heap.size v3 x.zset) (l3 : (x.zset).length ≤ 1048576) (h4 : EntriesAt w w.heap.size v4 x.stream) (l4 : (x.stream).length ≤ 1048576) (m4 : ∀ y ∈ x.stream, y.pairs.length ≤ 1048576) :
    Calls Tryz.prog 28 #[.agg #[(.int .u8 (x.kind : Int)), (.string x.text), v0, v1, v2, v3, v4, (.int .u64 (x.ms : Int)), (.int .u64 (x.seq : Int))]] w fun e w' => (∃ q0, ∃ q1, ∃ q2, ∃ q3, ∃ q4, e = .returned (.agg #[(.int .u8 (x.kind : Int)), (.string x.text), q0, q1, q2, q3, q4, (.int .u64 (x.ms : Int)), (.int .u64 (x.seq : Int))]) ∧ Tw_texts w' (fun r => w.heap.size ≤ r) q0 x.list ∧ Tw_pairs w' (fun r => w.heap.size ≤ r) q1 x.hash ∧ Tw_texts w' (fun r => w.heap.size ≤ r) q2 x.set ∧ Tw_scoreds w' (fun r => w.heap.size ≤ r) q3 x.zset ∧ Tw_entries w' (fun r => w.heap.size ≤ r) q4 x.stream) ∧ Below w.heap.size w w' := by
  obtain ⟨OK, hOK⟩ : ∃ OK : Nat → Prop, OK = (fun r => w.heap.size ≤ r ∧ r ≠ w.heap.size + 1) := ⟨_, rfl⟩
  have HW0 : Hid (Below w.heap.size w ((w.alloc (.cells #[(.int .u8 (x.kind : Int)), (.string x.text), v0, v1, v2, v3, v4, (.int .u64 (x.ms : Int)), (.int .u64 (x.seq : Int))] 42)).alloc (.cells #[.int .u8 0, .string ⟨#[]⟩, .slice none 0 0, .slice none 0 0, .slice none 0 0, .slice none 0 0, .slice none 0 0, .int .u64 0, .int .u64 0] 42))) := Lib.hid (((Below.refl _ w).alloc (Nat.le_refl _) _).alloc (by simp) _)
  have HB2 : Hid (((w.alloc (.cells #[(.int .u8 (x.kind : Int)), (.string x.text), v0, v1, v2, v3, v4, (.int .u64 (x.ms : Int)), (.int .u64 (x.seq : Int))] 42)).alloc (.cells #[.int .u8 0, .string ⟨#[]⟩, .slice none 0 0, .slice none 0 0, .slice none 0 0, .slice none 0 0, .slice none 0 0, .int .u64 0, .int .u64 0] 42)).heap[w.heap.size + 1]? = some (.cells #[.int .u8 0, .string ⟨#[]⟩, .slice none 0 0, .slice none 0 0, .slice none 0 0, .slice none 0 0, .slice none 0 0, .int .u64 0, .int .u64 0] 42 (0, 0))) := Lib.hid (by have := heap_alloc_new (w.alloc (.cells #[(.int .u8 (x.kind : Int)), (.string x.text), v0, v1, v2, v3, v4, (.int .u64 (x.ms : Int)), (.int .u64 (x.seq : Int))] 42)) (.cells #[.int .u8 0, .string ⟨#[]⟩, .slice none 0 0, .slice none 0 0, .slice none 0 0, .slice none 0 0, .slice none 0 0, .int .u64 0, .int .u64 0] 42); simpa using this)
  have HBX : Hid (∀ W, Grow.But (w.heap.size + 1) ((w.alloc (.cells #[(.int .u8 (x.kind : Int)), (.string x.text), v0, v1, v2, v3, v4, (.int .u64 (x.ms : Int)), (.int .u64 (x.seq : Int))] 42)).alloc (.cells #[.int .u8 0, .string ⟨#[]⟩, .slice none 0 0, .slice none 0 0, .slice none 0 0, .slice none 0 0, .slice none 0 0, .int .u64 0, .int .u64 0] 42)) W → W.heap[w.heap.size]? = some (.cells #[(.int .u8 (x.kind : Int)), (.string x.text), v0, v1, v2, v3, v4, (.int .u64 (x.ms : Int)), (.int .u64 (x.seq : Int))] 42 (0, 0))) := Lib.hid (fun W hR => (hR.block _ (by simp; omega) (by omega)).trans ((Lib.alloc_old _ _ _ (by simp)).trans (heap_alloc_new w _)))
  have HT0 : Hid (∀ W, Grow.But (w.heap.size + 1) ((w.alloc (.cells #[(.int .u8 (x.kind : Int)), (.string x.text), v0, v1, v2, v3, v4, (.int .u64 (x.ms : Int)), (.int .u64 (x.seq : Int))] 42)).alloc (.cells #[.int .u8 0, .string ⟨#[]⟩, .slice none 0 0, .slice none 0 0, .slice none 0 0, .slice none 0 0, .slice none 0 0, .int .u64 0, .int .u64 0] 42)) W → Calls Tryz.prog 80 #[v0] W fun e w' => (∃ u, e = .returned u ∧ Tw_texts w' OK u x.list) ∧ Below W.heap.size W w') := Lib.hid (fun W hR => by
    have hsz : w.heap.size + 2 ≤ W.heap.size := by have := hR.size; simp at this; omega
    have hb := HW0.out.trans (hR.below (B := w.heap.size) (by omega) (by simp; omega))
    refine (twin_texts x.list v0 W ((h0.below hb).more (by omega)) l0).mono ?_
    rintro e w' ⟨⟨q, hq, ht⟩, hb'⟩
    exact ⟨⟨q, hq, ht.mono (flat_el _) (fun r _ hr => by rw [hOK]; exact ⟨by omega, by omega⟩)⟩, hb'⟩)
  have HT1 : Hid (∀ W, Grow.But (w.heap.size + 1) ((w.alloc (.cells #[(.int .u8 (x.kind : Int)), (.string x.text), v0, v1, v2, v3, v4, (.int .u64 (x.ms : Int)), (.int .u64 (x.seq : Int))] 42)).alloc (.cells #[.int .u8 0, .string ⟨#[]⟩, .slice none 0 0, .slice none 0 0, .slice none 0 0, .slice none 0 0, .slice none 0 0, .int .u64 0, .int .u64 0] 42)) W → Calls Tryz.prog 81 #[v1] W fun e w' => (∃ u, e = .returned u ∧ Tw_pairs w' OK u x.hash) ∧ Below W.heap.size W w') := Lib.hid (fun W hR => by
    have hsz : w.heap.size + 2 ≤ W.heap.size := by have := hR.size; simp at this; omega
    have hb := HW0.out.trans (hR.below (B := w.heap.size) (by omega) (by simp; omega))
    refine (twin_pairs x.hash v1 W ((h1.below hb).more (by omega)) l1).mono ?_
    rintro e w' ⟨⟨q, hq, ht⟩, hb'⟩
    exact ⟨⟨q, hq, ht.mono (flat_el _) (fun r _ hr => by rw [hOK]; exact ⟨by omega, by omega⟩)⟩, hb'⟩)
  have HT2 : Hid (∀ W, Grow.But (w.heap.size + 1) ((w.alloc (.cells #[(.int .u8 (x.kind : Int)), (.string x.text), v0, v1, v2, v3, v4, (.int .u64 (x.ms : Int)), (.int .u64 (x.seq : Int))] 42)).alloc (.cells #[.int .u8 0, .string ⟨#[]⟩, .slice none 0 0, .slice none 0 0, .slice none 0 0, .slice none 0 0, .slice none 0 0, .int .u64 0, .int .u64 0] 42)) W → Calls Tryz.prog 80 #[v2] W fun e w' => (∃ u, e = .returned u ∧ Tw_texts w' OK u x.set) ∧ Below W.heap.size W w') := Lib.hid (fun W hR => by
    have hsz : w.heap.size + 2 ≤ W.heap.size := by have := hR.size; simp at this; omega
    have hb := HW0.out.trans (hR.below (B := w.heap.size) (by omega) (by simp; omega))
    refine (twin_texts x.set v2 W ((h2.below hb).more (by omega)) l2).mono ?_
    rintro e w' ⟨⟨q, hq, ht⟩, hb'⟩
    exact ⟨⟨q, hq, ht.mono (flat_el _) (fun r _ hr => by rw [hOK]; exact ⟨by omega, by omega⟩)⟩, hb'⟩)
  have HT3 : Hid (∀ W, Grow.But (w.heap.size + 1) ((w.alloc (.cells #[(.int .u8 (x.kind : Int)), (.string x.text), v0, v1, v2, v3, v4, (.int .u64 (x.ms : Int)), (.int .u64 (x.seq : Int))] 42)).alloc (.cells #[.int .u8 0, .string ⟨#[]⟩, .slice none 0 0, .slice none 0 0, .slice none 0 0, .slice none 0 0, .slice none 0 0, .int .u64 0, .int .u64 0] 42)) W → Calls Tryz.prog 82 #[v3] W fun e w' => (∃ u, e = .returned u ∧ Tw_scoreds w' OK u x.zset) ∧ Below W.heap.size W w') := Lib.hid (fun W hR => by
    have hsz : w.heap.size + 2 ≤ W.heap.size := by have := hR.size; simp at this; omega
    have hb := HW0.out.trans (hR.below (B := w.heap.size) (by omega) (by simp; omega))
    refine (twin_scoreds x.zset v3 W ((h3.below hb).more (by omega)) l3).mono ?_
    rintro e w' ⟨⟨q, hq, ht⟩, hb'⟩
    exact ⟨⟨q, hq, ht.mono (flat_el _) (fun r _ hr => by rw [hOK]; exact ⟨by omega, by omega⟩)⟩, hb'⟩)
  have HT4 : Hid (∀ W, Grow.But (w.heap.size + 1) ((w.alloc (.cells #[(.int .u8 (x.kind : Int)), (.string x.text), v0, v1, v2, v3, v4, (.int .u64 (x.ms : Int)), (.int .u64 (x.seq : Int))] 42)).alloc (.cells #[.int .u8 0, .string ⟨#[]⟩, .slice none 0 0, .slice none 0 0, .slice none 0 0, .slice none 0 0, .slice none 0 0, .int .u64 0, .int .u64 0] 42)) W → Calls Tryz.prog 83 #[v4] W fun e w' => (∃ u, e = .returned u ∧ Tw_entries w' OK u x.stream) ∧ Below W.heap.size W w') := Lib.hid (fun W hR => by
    have hsz : w.heap.size + 2 ≤ W.heap.size := by have := hR.size; simp at this; omega
    have hb := HW0.out.trans (hR.below (B := w.heap.size) (by omega) (by simp; omega))
    refine (twin_entries x.stream v4 W ((h4.below hb).more (by omega)) l4 m4).mono ?_
    rintro e w' ⟨⟨q, hq, ht⟩, hb'⟩
    exact ⟨⟨q, hq, ht.mono tw_en (fun r _ hr => by rw [hOK]; exact ⟨by omega, by omega⟩)⟩, hb'⟩)
  have HOK := Lib.hid hOK
  clear hOK h0 l0 h1 l1 h2 l2 h3 l3 h4 l4 m4
  go_enter Tryz.func28, Tryz.ntmps28
  go_wp2_with fail
  refine Grow.wp_region_last (b := w.heap.size + 1) [fun v _ => v = .pointer (some ⟨w.heap.size, 0, none⟩), fun v _ => v = (.int .u8 (x.kind : Int)), fun v _ => v = .pointer (some ⟨w.heap.size, 1, none⟩), fun v _ => v = (.string x.text), fun v _ => v = .pointer (some ⟨w.heap.size, 2, none⟩), fun v _ => v = v0, fun v W => Tw_texts W OK v x.list, fun v _ => v = .pointer (some ⟨w.heap.size, 3, none⟩), fun v _ => v = v1, fun v W => Tw_pairs W OK v x.hash, fun v _ => v = .pointer (some ⟨w.heap.size, 4, none⟩), fun v _ => v = v2, fun v W => Tw_texts W OK v x.set, fun v _ => v = .pointer (some ⟨w.heap.size, 5, none⟩), fun v _ => v = v3, fun v W => Tw_scoreds W OK v x.zset, fun v _ => v = .pointer (some ⟨w.heap.size, 6, none⟩), fun v _ => v = v4, fun v W => Tw_entries W OK v x.stream, fun v _ => v = .pointer (some ⟨w.heap.size, 7, none⟩), fun v _ => v = .agg #[(.int .u64 (x.ms : Int)), (.int .u64 (x.seq : Int))], fun v W => ∃ q0, ∃ q1, ∃ q2, ∃ q3, ∃ q4, v = .agg #[(.int .u8 (x.kind : Int)), (.string x.text), q0, q1, q2, q3, q4, (.int .u64 (x.ms : Int)), (.int .u64 (x.seq : Int))] ∧ Tw_texts W OK q0 x.list ∧ Tw_pairs W OK q1 x.hash ∧ Tw_texts W OK q2 x.set ∧ Tw_scoreds W OK q3 x.zset ∧ Tw_entries W OK q4 x.stream, fun _ W => ∃ q0, ∃ q1, ∃ q2, ∃ q3, ∃ q4, W.heap[w.heap.size + 1]? = some (.cells #[(.int .u8 (x.kind : Int)), (.string x.text), q0, q1, q2, q3, q4, (.int .u64 (x.ms : Int)), (.int .u64 (x.seq : Int))] 42 (0, 0)) ∧ Tw_texts W OK q0 x.list ∧ Tw_pairs W OK q1 x.hash ∧ Tw_texts W OK q2 x.set ∧ Tw_scoreds W OK q3 x.zset ∧ Tw_entries W OK q4 x.stream]
    [[], [0], [], [2], [], [4], [5], [], [7], [8], [], [10], [11], [], [13], [14], [], [16], [17], [], [19], [1, 3, 6, 9, 12, 15, 18, 20], [0, 1, 2, 3, 4, 5, 6, 7, 8, 9, 10, 11, 12, 13, 14, 15, 16, 17, 18, 19, 20, 21]] (by kernel_rfl) (by kernel_rfl) (by kernel_rfl) ?_ ?_ ?_
  · intro V hV
    have hst1 : ∀ x : Value, Grow.StableB (w.heap.size + 1) (fun v _ => v = x) := fun x v w w' h _ => h
    have hs0 : Grow.StableB (w.heap.size + 1) (fun v W => Tw_texts W OK v x.list) := fun v w1 w2 h hr => h.keep (flat_el _) hr.size (fun r hok hlt => hr.block r hlt (by rw [HOK.out] at hok; exact hok.2))
    have hs1 : Grow.StableB (w.heap.size + 1) (fun v W => Tw_pairs W OK v x.hash) := fun v w1 w2 h hr => h.keep (flat_el _) hr.size (fun r hok hlt => hr.block r hlt (by rw [HOK.out] at hok; exact hok.2))
    have hs2 : Grow.StableB (w.heap.size + 1) (fun v W => Tw_texts W OK v x.set) := fun v w1 w2 h hr => h.keep (flat_el _) hr.size (fun r hok hlt => hr.block r hlt (by rw [HOK.out] at hok; exact hok.2))
    have hs3 : Grow.StableB (w.heap.size + 1) (fun v W => Tw_scoreds W OK v x.zset) := fun v w1 w2 h hr => h.keep (flat_el _) hr.size (fun r hok hlt => hr.block r hlt (by rw [HOK.out] at hok; exact hok.2))
    have hs4 : Grow.StableB (w.heap.size + 1) (fun v W => Tw_entries W OK v x.stream) := fun v w1 w2 h hr => h.keep tw_en hr.size (fun r hok hlt => hr.block r hlt (by rw [HOK.out] at hok; exact hok.2))
    have hsb : Grow.StableB (w.heap.size + 1) (fun v W => ∃ q0, ∃ q1, ∃ q2, ∃ q3, ∃ q4, v = .agg #[(.int .u8 (x.kind : Int)), (.string x.text), q0, q1, q2, q3, q4, (.int .u64 (x.ms : Int)), (.int .u64 (x.seq : Int))] ∧ Tw_texts W OK q0 x.list ∧ Tw_pairs W OK q1 x.hash ∧ Tw_texts W OK q2 x.set ∧ Tw_scoreds W OK q3 x.zset ∧ Tw_entries W OK q4 x.stream) := by
      rintro v w1 w2 ⟨q0, q1, q2, q3, q4, h0, p0, p1, p2, p3, p4⟩ hr
      exact ⟨q0, q1, q2, q3, q4, h0, hs0 q0 w1 w2 p0 hr, hs1 q1 w1 w2 p1 hr, hs2 q2 w1 w2 p2 hr, hs3 q3 w1 w2 p3 hr, hs4 q4 w1 w2 p4 hr⟩
    simp only [List.length_cons, List.length_nil, Nat.reduceAdd, Nat.reduceSub, List.take_succ_cons, List.take_zero, List.mem_cons, List.not_mem_nil, or_false] at hV
    rcases hV with rfl | rfl | rfl | rfl | rfl | rfl | rfl | rfl | rfl | rfl | rfl | rfl | rfl | rfl | rfl | rfl | rfl | rfl | rfl | rfl | rfl | rfl
    all_goals first | exact hst1 _ | exact hs0 | exact hs1 | exact hs2 | exact hs3 | exact hs4 | exact hsb
  · refine .cons (fun u w' hR hF => Grow.gop_n rfl ?_) ?_
    · go_simp
      exact Grow.But.refl _
    refine .cons (fun u w' hR hF => Grow.gop_n rfl ?_) ?_
    · have f0 : u 0 = .pointer (some ⟨w.heap.size, 0, none⟩) := hF.1
      have hbb := HBX.out w' hR
      have e0 : w'.cell? ⟨w.heap.size, 0, none⟩ = some (.int .u8 (x.kind : Int)) := by (rw [Lib.cell_of_heap hbb]; rfl)
      clear hbb
      go_simp
      exact Grow.But.refl _
    refine .cons (fun u w' hR hF => Grow.gop_n rfl ?_) ?_
    · go_simp
      exact Grow.But.refl _
    refine .cons (fun u w' hR hF => Grow.gop_n rfl ?_) ?_
    · have f0 : u 2 = .pointer (some ⟨w.heap.size, 1, none⟩) := hF.1
      have hbb := HBX.out w' hR
      have e0 : w'.cell? ⟨w.heap.size, 1, none⟩ = some (.string x.text) := by (rw [Lib.cell_of_heap hbb]; rfl)
      clear hbb
      go_simp
      exact Grow.But.refl _
    refine .cons (fun u w' hR hF => Grow.gop_n rfl ?_) ?_
    · go_simp
      exact Grow.But.refl _
    refine .cons (fun u w' hR hF => Grow.gop_n rfl ?_) ?_
    · have f0 : u 4 = .pointer (some ⟨w.heap.size, 2, none⟩) := hF.1
      have hbb := HBX.out w' hR
      have e0 : w'.cell? ⟨w.heap.size, 2, none⟩ = some v0 := by (rw [Lib.cell_of_heap hbb]; rfl)
      clear hbb
      go_simp
      exact Grow.But.refl _
    refine .cons (fun u w' hR hF => Grow.gop_n rfl ?_) ?_
    · have f0 : u 5 = v0 := hF.1
      have hT := HT0.out w' hR
      go_simp
      exact hT.mono (by rintro e w'' ⟨⟨q, rfl, hq⟩, hb⟩; exact ⟨q, rfl, Grow.But.of_grows hb, hq⟩)
    refine .cons (fun u w' hR hF => Grow.gop_n rfl ?_) ?_
    · go_simp
      exact Grow.But.refl _
    refine .cons (fun u w' hR hF => Grow.gop_n rfl ?_) ?_
    · have f0 : u 7 = .pointer (some ⟨w.heap.size, 3, none⟩) := hF.1
      have hbb := HBX.out w' hR
      have e0 : w'.cell? ⟨w.heap.size, 3, none⟩ = some v1 := by (rw [Lib.cell_of_heap hbb]; rfl)
      clear hbb
      go_simp
      exact Grow.But.refl _
    refine .cons (fun u w' hR hF => Grow.gop_n rfl ?_) ?_
    · have f0 : u 8 = v1 := hF.1
      have hT := HT1.out w' hR
      go_simp
      exact hT.mono (by rintro e w'' ⟨⟨q, rfl, hq⟩, hb⟩; exact ⟨q, rfl, Grow.But.of_grows hb, hq⟩)
    refine .cons (fun u w' hR hF => Grow.gop_n rfl ?_) ?_
    · go_simp
      exact Grow.But.refl _
    refine .cons (fun u w' hR hF => Grow.gop_n rfl ?_) ?_
    · have f0 : u 10 = .pointer (some ⟨w.heap.size, 4, none⟩) := hF.1
      have hbb := HBX.out w' hR
      have e0 : w'.cell? ⟨w.heap.size, 4, none⟩ = some v2 := by (rw [Lib.cell_of_heap hbb]; rfl)
      clear hbb
      go_simp
      exact Grow.But.refl _
    refine .cons (fun u w' hR hF => Grow.gop_n rfl ?_) ?_
    · have f0 : u 11 = v2 := hF.1
      have hT := HT2.out w' hR
      go_simp
      exact hT.mono (by rintro e w'' ⟨⟨q, rfl, hq⟩, hb⟩; exact ⟨q, rfl, Grow.But.of_grows hb, hq⟩)
    refine .cons (fun u w' hR hF => Grow.gop_n rfl ?_) ?_
    · go_simp
      exact Grow.But.refl _
    refine .cons (fun u w' hR hF => Grow.gop_n rfl ?_) ?_
    · have f0 : u 13 = .pointer (some ⟨w.heap.size, 5, none⟩) := hF.1
      have hbb := HBX.out w' hR
      have e0 : w'.cell? ⟨w.heap.size, 5, none⟩ = some v3 := by (rw [Lib.cell_of_heap hbb]; rfl)
      clear hbb
      go_simp
      exact Grow.But.refl _
    refine .cons (fun u w' hR hF => Grow.gop_n rfl ?_) ?_
    · have f0 : u 14 = v3 := hF.1
      have hT := HT3.out w' hR
      go_simp
      exact hT.mono (by rintro e w'' ⟨⟨q, rfl, hq⟩, hb⟩; exact ⟨q, rfl, Grow.But.of_grows hb, hq⟩)
    refine .cons (fun u w' hR hF => Grow.gop_n rfl ?_) ?_
    · go_simp
      exact Grow.But.refl _
    refine .cons (fun u w' hR hF => Grow.gop_n rfl ?_) ?_
    · have f0 : u 16 = .pointer (some ⟨w.heap.size, 6, none⟩) := hF.1
      have hbb := HBX.out w' hR
      have e0 : w'.cell? ⟨w.heap.size, 6, none⟩ = some v4 := by (rw [Lib.cell_of_heap hbb]; rfl)
      clear hbb
      go_simp
      exact Grow.But.refl _
    refine .cons (fun u w' hR hF => Grow.gop_n rfl ?_) ?_
    · have f0 : u 17 = v4 := hF.1
      have hT := HT4.out w' hR
      go_simp
      exact hT.mono (by rintro e w'' ⟨⟨q, rfl, hq⟩, hb⟩; exact ⟨q, rfl, Grow.But.of_grows hb, hq⟩)
    refine .cons (fun u w' hR hF => Grow.gop_n rfl ?_) ?_
    · go_simp
      exact Grow.But.refl _
    refine .cons (fun u w' hR hF => Grow.gop_n rfl ?_) ?_
    · have f0 : u 19 = .pointer (some ⟨w.heap.size, 7, none⟩) := hF.1
      have hbb := HBX.out w' hR
      have e0 : w'.cell? ⟨w.heap.size, 7, none⟩ = some (.int .u64 (x.ms : Int)) := by (rw [Lib.cell_of_heap hbb]; rfl)
      have e1 : w'.cell? ⟨w.heap.size, 8, none⟩ = some (.int .u64 (x.seq : Int)) := by (rw [Lib.cell_of_heap hbb]; rfl)
      clear hbb
      go_simp
      exact Grow.But.refl _
    refine .cons (fun u w' hR hF => Grow.gop_n rfl ?_) ?_
    · have f1 : u 1 = (.int .u8 (x.kind : Int)) := hF.1
      have f3 : u 3 = (.string x.text) := hF.2.1
      have p0 : Tw_texts w' OK (u 6) x.list := hF.2.2.1
      obtain ⟨g0, f6, _⟩ := id p0
      rw [f6] at p0
      have p1 : Tw_pairs w' OK (u 9) x.hash := hF.2.2.2.1
      obtain ⟨g1, f9, _⟩ := id p1
      rw [f9] at p1
      have p2 : Tw_texts w' OK (u 12) x.set := hF.2.2.2.2.1
      obtain ⟨g2, f12, _⟩ := id p2
      rw [f12] at p2
      have p3 : Tw_scoreds w' OK (u 15) x.zset := hF.2.2.2.2.2.1
      obtain ⟨g3, f15, _⟩ := id p3
      rw [f15] at p3
      have p4 : Tw_entries w' OK (u 18) x.stream := hF.2.2.2.2.2.2.1
      obtain ⟨g4, f18, _⟩ := id p4
      rw [f18] at p4
      have f20 : u 20 = .agg #[(.int .u64 (x.ms : Int)), (.int .u64 (x.seq : Int))] := hF.2.2.2.2.2.2.2.1
      clear hF
      have HP0 := Lib.hid p0 
      have HP1 := Lib.hid p1 
      have HP2 := Lib.hid p2 
      have HP3 := Lib.hid p3 
      have HP4 := Lib.hid p4
      clear p0 p1 p2 p3 p4
      go_simp
      exact ⟨Grow.But.refl _, _, _, _, _, _, ⟨rfl, rfl, rfl, rfl, rfl⟩, HP0.out, HP1.out, HP2.out, HP3.out, HP4.out⟩
    refine Grow.gGoals.store ?a1 42 (.tmp 2) (.tmp 24) ?a2 (w.heap.size + 1) 42 9 21 ?a3 ?a4 (by kernel_rfl) (fun w' hR => hR.shape _ _ _ HB2.out) ?a5
    case a1 => rfl
    case a2 => rfl
    case a3 => (intro u; go_simp)
    case a4 => (intro u; go_simp)
    case a5 =>
      intro u w' hR hF
      obtain ⟨q0, q1, q2, q3, q4, f0, p0, p1, p2, p3, p4⟩ := hF.2.2.2.2.2.2.2.2.2.2.2.2.2.2.2.2.2.2.2.2.2.1
      obtain ⟨g0, e0, _⟩ := id p0
      have o0 : q0.oneCell' = true := by rw [e0]; rfl
      clear e0
      obtain ⟨g1, e1, _⟩ := id p1
      have o1 : q1.oneCell' = true := by rw [e1]; rfl
      clear e1
      obtain ⟨g2, e2, _⟩ := id p2
      have o2 : q2.oneCell' = true := by rw [e2]; rfl
      clear e2
      obtain ⟨g3, e3, _⟩ := id p3
      have o3 : q3.oneCell' = true := by rw [e3]; rfl
      clear e3
      obtain ⟨g4, e4, _⟩ := id p4
      have o4 : q4.oneCell' = true := by rw [e4]; rfl
      clear e4
      refine ⟨_, f0, rfl, by simp [one_int, one_str, o0, o1, o2, o3, o4], fun cur hc hs => ⟨Grow.But.row hc (by rw [hs]; rfl), ⟨q0, q1, q2, q3, q4, setRow_heap _ _ _ _ _ _ hc, p0.keep (flat_el _) (by simp [World.setRow]) (fun r hok _ => setRow_other _ _ _ _ (by rw [HOK.out] at hok; exact hok.2)), p1.keep (flat_el _) (by simp [World.setRow]) (fun r hok _ => setRow_other _ _ _ _ (by rw [HOK.out] at hok; exact hok.2)), p2.keep (flat_el _) (by simp [World.setRow]) (fun r hok _ => setRow_other _ _ _ _ (by rw [HOK.out] at hok; exact hok.2)), p3.keep (flat_el _) (by simp [World.setRow]) (fun r hok _ => setRow_other _ _ _ _ (by rw [HOK.out] at hok; exact hok.2)), p4.keep tw_en (by simp [World.setRow]) (fun r hok _ => setRow_other _ _ _ _ (by rw [HOK.out] at hok; exact hok.2))⟩⟩⟩
  · intro w' hR
    have HB3 : Hid (Below w.heap.size w w') := Lib.hid (HW0.out.trans (hR.below (B := w.heap.size) (by omega) (by simp; omega)))
    clear hR
    refine .cons (fun x0 f0 => ?_)
    refine .cons (fun x1 f1 => ?_)
    refine .cons (fun x2 f2 => ?_)
    refine .cons (fun x3 f3 => ?_)
    refine .cons (fun x4 f4 => ?_)
    refine .cons (fun x5 f5 => ?_)
    refine .cons (fun x6 f6 => ?_)
    refine .cons (fun x7 f7 => ?_)
    refine .cons (fun x8 f8 => ?_)
    refine .cons (fun x9 f9 => ?_)
    refine .cons (fun x10 f10 => ?_)
    refine .cons (fun x11 f11 => ?_)
    refine .cons (fun x12 f12 => ?_)
    refine .cons (fun x13 f13 => ?_)
    refine .cons (fun x14 f14 => ?_)
    refine .cons (fun x15 f15 => ?_)
    refine .cons (fun x16 f16 => ?_)
    refine .cons (fun x17 f17 => ?_)
    refine .cons (fun x18 f18 => ?_)
    refine .cons (fun x19 f19 => ?_)
    refine .cons (fun x20 f20 => ?_)
    refine .cons (fun x21 f21 => ?_)
    refine .cons (fun x22 f22 => ?_)
    refine .nil ?_
    obtain ⟨q0, q1, q2, q3, q4, fz, p0, p1, p2, p3, p4⟩ := f22
    have HF := Lib.hid fz
    have HP0 := Lib.hid p0
    have HP1 := Lib.hid p1
    have HP2 := Lib.hid p2
    have HP3 := Lib.hid p3
    have HP4 := Lib.hid p4
    clear fz p0 p1 p2 p3 p4 f0 f1 f2 f3 f4 f5 f6 f7 f8 f9 f10 f11 f12 f13 f14 f15 f16 f17 f18 f19 f20 f21
    go_simp
    go_wp2_with fail
    refine bodyPost_ret (results_cell_row rfl _ _ (w.heap.size + 1) 42 #[(.int .u8 (x.kind : Int)), (.string x.text), q0, q1, q2, q3, q4, (.int .u64 (x.ms : Int)), (.int .u64 (x.seq : Int))] (0, 0) _ rfl HF.out Tryz.underlying42 rfl size_value) rfl ?_
    exact ⟨⟨q0, q1, q2, q3, q4, rfl, HP0.out.mono (flat_el _) (fun r _ hok => by rw [HOK.out] at hok; exact hok.1), HP1.out.mono (flat_el _) (fun r _ hok => by rw [HOK.out] at hok; exact hok.1), HP2.out.mono (flat_el _) (fun r _ hok => by rw [HOK.out] at hok; exact hok.1), HP3.out.mono (flat_el _) (fun r _ hok => by rw [HOK.out] at hok; exact hok.1), HP4.out.mono tw_en (fun r _ hok => by rw [HOK.out] at hok; exact hok.1)⟩, HB3.out⟩

end Go.Proofs.YtpnmhldaaaemeaaGreat.Snp
/- Chapter 24: the small functions of Check. -/
namespace Go.Proofs.YtpnmhldaaaemeaaGreat.Snp
open Go.RowKit Go.Proofs.YtpnmhldaaaemeaaGreat.Pin

theorem pb_bool (b : Bool) : pb (b = true) = b := by
  cases b
  · exact pb_false (by decide)
  · exact pb_true rfl
def LtS (a b : ByteArray) : Prop := Op.bytesLess a.toList b.toList = true
theorem pb_lts (a b : ByteArray) : pb (LtS a b) = Op.bytesLess a.toList b.toList := pb_bool _
theorem hless_any (p q : Pr) (w : World) : Asks 43 #[.agg #[.string p.1, .string p.2], .agg #[.string q.1, .string q.2]] w (LtS p.1 q.1) := by
  obtain ⟨a, b⟩ := p
  obtain ⟨c, d⟩ := q
  unfold Asks
  rw [pb_lts]
  go_enter Tryz.func43, Tryz.ntmps43
  go_wp2_with fail
  go_ret
  exact ⟨rfl, ((Below.refl _ _).alloc (Nat.le_refl _) _).alloc (by simp) _⟩
theorem sless_any (a b : ByteArray) (w : World) : Calls Tryz.prog 51 #[.string a, .string b] w fun e w' => e = .returned (.bool (pb (LtS a b))) ∧ w = w' := by
  rw [pb_lts]
  go_enter Tryz.func51, Tryz.ntmps51
  go_wp2_with fail
  go_ret
  exact ⟨rfl, rfl⟩
theorem any_str (a b : ByteArray) (w : World) : Calls Tryz.prog 35 #[.string a, .string b] w fun e w' => e = .returned (.bool true) ∧ w = w' := by
  go_enter Tryz.func35, Tryz.ntmps35
  go_wp2_with fail
  go_ret
  exact ⟨rfl, rfl⟩
theorem any_pair (p q : Pr) (w : World) : Calls Tryz.prog 97 #[.agg #[.string p.1, .string p.2], .agg #[.string q.1, .string q.2]] w fun e w' => e = .returned (.bool true) ∧ Below w.heap.size w w' := by
  go_enter Tryz.func97, Tryz.ntmps97
  go_wp2_with fail
  go_ret
  exact ⟨rfl, ((Below.refl _ _).alloc (Nat.le_refl _) _).alloc (by simp) _⟩
def LessP (a b : Nat × Nat) : Prop := a.1 < b.1 ∨ a.1 = b.1 ∧ a.2 < b.2
abbrev idV (a : Nat × Nat) : Value := .agg #[.int .u64 (a.1 : Int), .int .u64 (a.2 : Int)]
theorem less_any (a b : Nat × Nat) (w : World) : Asks 96 #[idV a, idV b] w (LessP a b) := by
  obtain ⟨a1, a2⟩ := a
  obtain ⟨b1, b2⟩ := b
  unfold Asks
  by_cases h1 : a1 < b1
  · rw [pb_true (show LessP (a1, a2) (b1, b2) from .inl h1)]
    have h1' : decide ((a1 : Int) < (b1 : Int)) = true := by simpa using h1
    go_enter Tryz.func96, Tryz.ntmps96
    go_wp2_with fail
    go_ret
    exact ⟨rfl, ((Below.refl _ _).alloc (Nat.le_refl _) _).alloc (by simp) _⟩
  · by_cases h2 : a1 = b1
    · by_cases h3 : a2 < b2
      · rw [pb_true (show LessP (a1, a2) (b1, b2) from .inr ⟨h2, h3⟩)]
        subst h2
        go_enter Tryz.func96, Tryz.ntmps96
        go_wp2_with fail
        go_ret
        exact ⟨rfl, ((Below.refl _ _).alloc (Nat.le_refl _) _).alloc (by simp) _⟩
      · rw [pb_false (show ¬ LessP (a1, a2) (b1, b2) from fun h => by rcases h with h | h; exact h1 h; exact h3 h.2)]
        subst h2
        go_enter Tryz.func96, Tryz.ntmps96
        go_wp2_with fail
        go_ret
        exact ⟨rfl, ((Below.refl _ _).alloc (Nat.le_refl _) _).alloc (by simp) _⟩
    · rw [pb_false (show ¬ LessP (a1, a2) (b1, b2) from fun h => by rcases h with h | h; exact h1 h; exact h2 h.1)]
      have h2' : ¬ (a1 : Int) = (b1 : Int) := by omega
      go_enter Tryz.func96, Tryz.ntmps96
      go_wp2_with fail
      go_ret
      exact ⟨rfl, ((Below.refl _ _).alloc (Nat.le_refl _) _).alloc (by simp) _⟩
def FLt (x y : Nat) : Prop := FloatKind.f64.format.order x y = some .lt
def FEq (x y : Nat) : Prop := FloatKind.f64.format.order x y = some .eq
theorem nan_any (x : Nat) (w : World) : Calls Tryz.prog 89 #[.float .f64 x] w fun e w' => e = .returned (.bool (pb (¬ FEq x x))) ∧ w = w' := by
  by_cases h : FloatKind.f64.format.order x x = some Ordering.eq
  · rw [pb_false (show ¬ ¬ FEq x x from fun h' => h' h)]
    go_enter Tryz.func89, Tryz.ntmps89
    go_wp2_with fail
    go_ret
    exact ⟨rfl, rfl⟩
  · rw [pb_true (show ¬ FEq x x from h)]
    have h' : (FloatKind.f64.format.order x x != some Ordering.eq) = true := by simpa using h
    clear h
    go_enter Tryz.func89, Tryz.ntmps89
    go_wp2_with fail
    go_ret
    exact ⟨rfl, rfl⟩
theorem call_bits (x : Nat) (w : World) : (callFunc 92 #[.float .f64 x]).run Tryz.prog w = .ok (.value (.int .u64 (x : Int))) w := by kernel_rfl
set_option maxRecDepth 100000 in
theorem sig_any (x : Nat) (w : World) (hx : x < 18446744073709551616) : Calls Tryz.prog 90 #[.float .f64 x] w fun e w' => e = .returned (.bool (pb (9223372036854775808 ≤ x))) ∧ w = w' := by
  have hc := call_bits x
  go_enter Tryz.func90, Tryz.ntmps90
  go_wp2_with fail
  go_ret
  have e : decide (wrap64 (x : Int) < 0) = pb (9223372036854775808 ≤ x) := by
    rw [pb_decide]
    refine pb_congr ?_
    unfold wrap64
    omega
  exact ⟨by rw [← e]; rfl, rfl⟩
theorem sless2_any (p q : Sc) (w : World) : Asks 91 #[.agg #[.string p.1, .float .f64 p.2], .agg #[.string q.1, .float .f64 q.2]] w (FLt p.2 q.2 ∨ FEq p.2 q.2 ∧ LtS p.1 q.1) := by
  obtain ⟨a, b⟩ := p
  obtain ⟨c, d⟩ := q
  unfold Asks
  by_cases h1 : FloatKind.f64.format.order b d = some Ordering.lt
  · rw [pb_true (.inl h1)]
    go_enter Tryz.func91, Tryz.ntmps91
    go_wp2_with fail
    go_ret
    exact ⟨rfl, ((Below.refl _ _).alloc (Nat.le_refl _) _).alloc (by simp) _⟩
  · by_cases h2 : FloatKind.f64.format.order b d = some Ordering.eq
    · rw [pb_congr (show (FLt b d ∨ FEq b d ∧ LtS a c) ↔ LtS a c from ⟨fun h => by rcases h with h | h; exact absurd h h1; exact h.2, fun h => .inr ⟨h2, h⟩⟩), pb_lts]
      go_enter Tryz.func91, Tryz.ntmps91
      go_wp2_with fail
      go_ret
      exact ⟨rfl, ((Below.refl _ _).alloc (Nat.le_refl _) _).alloc (by simp) _⟩
    · rw [pb_false (fun h => by rcases h with h | h; exact h1 h; exact h2 h.1)]
      have h1' : (FloatKind.f64.format.order b d == some Ordering.lt) = false := by simpa using h1
      have h2' : (FloatKind.f64.format.order b d == some Ordering.eq) = false := by simpa using h2
      clear h1 h2
      go_enter Tryz.func91, Tryz.ntmps91
      go_wp2_with fail
      go_ret
      exact ⟨rfl, ((Below.refl _ _).alloc (Nat.le_refl _) _).alloc (by simp) _⟩
end Go.Proofs.YtpnmhldaaaemeaaGreat.Snp
/- Chapter 24: 'rising', at each of its uses. Printed by gen_ris24.py. -/
namespace Go.Proofs.YtpnmhldaaaemeaaGreat.Snp
open Go.RowKit Go.Proofs.YtpnmhldaaaemeaaGreat.Pin

/-- as many as there may be, each may be, each two beside one another are as is asked -/
def Ris {α : Type} (may : α → Prop) (ahead : α → α → Prop) (l : List α) : Prop := l.length ≤ 1048576 ∧ ∀ (j : Nat) (h : j < l.length), may l[j] ∧ (∀ _ : 0 < j, ahead (l[j - 1]'(by omega)) l[j])
def Upto {α : Type} (may : α → Prop) (ahead : α → α → Prop) (l : List α) (k : Nat) : Prop := ∀ (j : Nat) (h : j < l.length), j < k → may l[j] ∧ (∀ _ : 0 < j, ahead (l[j - 1]'(by omega)) l[j])
theorem upto_zero {α : Type} (may : α → Prop) (ahead : α → α → Prop) (l : List α) : Upto may ahead l 0 := fun j _ h => absurd h (by omega)
theorem upto_succ {α : Type} {may : α → Prop} {ahead : α → α → Prop} {l : List α} {k : Nat} (h : Upto may ahead l k) (hk : k < l.length) (h1 : may l[k]) (h2 : ∀ _ : 0 < k, ahead (l[k - 1]'(by omega)) l[k]) : Upto may ahead l (k + 1) := by
  intro j hj hlt
  by_cases e : j = k
  · subst e; exact ⟨h1, h2⟩
  · exact h j hj (by omega)
theorem ris_of_upto {α : Type} {may : α → Prop} {ahead : α → α → Prop} {l : List α} (hl : l.length ≤ 1048576) (h : Upto may ahead l l.length) : Ris may ahead l := ⟨hl, fun j hj => h j hj hj⟩
def AnyP {α : Type} (_ _ : α) : Prop := True
theorem of_pb {P : Prop} (h : pb P = true) : P := by
  by_cases h' : P
  · exact h'
  · rw [pb_false h'] at h; cases h
theorem not_pb {P : Prop} (h : pb P = false) : ¬ P := fun h' => by rw [pb_true h'] at h; cases h
set_option maxHeartbeats 1000000 in
theorem ris_set (l : List ByteArray) (v : Value) (w : World) (hT : TextsAt w w.heap.size v l) (hl : l.length ≤ 140737488351232) :
    Asks 34 #[v, .func (.func 20) #[] #[], .func (.func 51) #[] #[]] w (Ris MayP LtS l) := by
  obtain ⟨A, c, rfl, hT⟩ := hT
  unfold Asks
  obtain ⟨L, hL⟩ : ∃ L, L = l.length := ⟨_, rfl⟩
  rw [← hL] at hl ⊢
  have HL := Lib.hid hL
  have HT := Lib.hid hT
  clear hL hT
  by_cases hbig : (1048576 : Int) < (L : Int)
  · rw [pb_false (show ¬ Ris MayP LtS l from fun h => by have := h.1; have := HL.out; omega)]
    go_enter Tryz.func34, Tryz.ntmps34
    go_wp2_with fail
    go_ret
    exact ⟨rfl, Below.refl _ _⟩
  · go_enter Tryz.func34, Tryz.ntmps34
    go_wp2_with fail
    go_loopw [14] (fun i wr => ∃ (k : Nat), k ≤ L ∧ i = .int .i64 k ∧ Hid (Upto MayP LtS l k) ∧ Hid (Below w.heap.size w wr)) (fun i _ => L - (intOf i).toNat)
    case atStart => exact ⟨0, by omega, rfl, Lib.hid (upto_zero _ _ _), Lib.hid (Below.refl _ _)⟩
    case round =>
      obtain ⟨k, hk, rfl, HU, HB⟩ := hrel
      by_cases hlt : k < L
      · have hlt' : (k : Int) < (L : Int) := by omega
        have hkl : k < l.length := by rw [← HL.out]; exact hlt
        obtain ⟨r, o, rfl, hr, hc⟩ := HT.out (by have := HL.out; omega)
        have hck := (HB.out.cell (p := ⟨r, _, none⟩) hr).trans (hc k hkl)
        obtain ⟨x, hx⟩ : ∃ x, x = l[k] := ⟨_, rfl⟩
        rw [← hx] at hck
        have HX := Lib.hid hx
        have HM := Lib.hid (fun W => may_any x W)
        cases hm : pb (MayP x) with
        | false =>
          have HN := Lib.hid (not_pb hm)
          clear hc hx
          go_wp2_with fail
          refine (HM.out _).mono ?_
          rintro e w' ⟨rfl, rfl⟩
          go_wp2_with fail
          go_ret
          refine ⟨?_, HB.out⟩
          rw [pb_false (fun h => by
            have := (h.2 k hkl).1
            rw [← HX.out] at this
            exact HN.out this)]
          rfl
        | true =>
          have HMX := Lib.hid (of_pb hm)
          by_cases hk0 : 0 < k
          · have hk0' : (0 : Int) < (k : Int) := by omega
            have hcp := (HB.out.cell (p := ⟨r, _, none⟩) hr).trans (hc (k - 1) (by omega))
            obtain ⟨y, hy⟩ : ∃ y, y = l[k - 1] := ⟨_, rfl⟩
            rw [← hy] at hcp
            have HY := Lib.hid hy
            have HA := Lib.hid (fun W => sless_any y x W)
            clear hc hx hy
            cases ha : pb (LtS y x) with
            | false =>
              have HN := Lib.hid (not_pb ha)
              go_wp2_with fail
              refine (HM.out _).mono ?_
              rintro e w' ⟨rfl, rfl⟩
              go_wp2_with fail
              refine (HA.out _).mono ?_
              rintro e w' ⟨rfl, rfl⟩
              go_wp2_with fail
              go_ret
              refine ⟨?_, HB.out⟩
              rw [pb_false (fun h => by
                have := (h.2 k hkl).2 hk0
                rw [← HX.out, ← HY.out] at this
                exact HN.out this)]
              rfl
            | true =>
              have HN := Lib.hid (of_pb ha)
              go_wp2_with fail
              refine (HM.out _).mono ?_
              rintro e w' ⟨rfl, rfl⟩
              go_wp2_with fail
              refine (HA.out _).mono ?_
              rintro e w' ⟨rfl, rfl⟩
              go_wp2_with fail
              go_roundw
              case rel => exact ⟨k + 1, by omega, by go_num, Lib.hid (upto_succ HU.out hkl (by rw [← HX.out]; exact HMX.out) (fun _ => by rw [← HX.out, ← HY.out]; exact HN.out)), HB⟩
              case measure => simp [intOf]; omega
          · have hk0' : ¬ (0 : Int) < (k : Int) := by omega
            clear hc hx
            go_wp2_with fail
            refine (HM.out _).mono ?_
            rintro e w' ⟨rfl, rfl⟩
            go_wp2_with fail
            go_roundw
            case rel => exact ⟨k + 1, by omega, by go_num, Lib.hid (upto_succ HU.out hkl (by rw [← HX.out]; exact HMX.out) (fun h => absurd h hk0)), HB⟩
            case measure => simp [intOf]; omega
      · have hlt' : ¬ (k : Int) < (L : Int) := by omega
        have hkL : k = l.length := by have := HL.out; omega
        have HK := Lib.hid hkL
        clear hkL
        go_wp2_with fail
        go_ret
        refine ⟨?_, HB.out⟩
        have hu := HU.out
        rw [HK.out] at hu
        rw [pb_true (ris_of_upto (by have := HL.out; omega) hu)]
        rfl
theorem any_str_pb (a b : ByteArray) (w : World) : Calls Tryz.prog 35 #[.string a, .string b] w fun e w' => e = .returned (.bool (pb (AnyP a b))) ∧ w = w' := by
  rw [pb_true (show AnyP a b from trivial)]
  exact any_str a b w
set_option maxHeartbeats 1000000 in
theorem ris_list (l : List ByteArray) (v : Value) (w : World) (hT : TextsAt w w.heap.size v l) (hl : l.length ≤ 140737488351232) :
    Asks 34 #[v, .func (.func 20) #[] #[], .func (.func 35) #[] #[]] w (Ris MayP AnyP l) := by
  obtain ⟨A, c, rfl, hT⟩ := hT
  unfold Asks
  obtain ⟨L, hL⟩ : ∃ L, L = l.length := ⟨_, rfl⟩
  rw [← hL] at hl ⊢
  have HL := Lib.hid hL
  have HT := Lib.hid hT
  clear hL hT
  by_cases hbig : (1048576 : Int) < (L : Int)
  · rw [pb_false (show ¬ Ris MayP AnyP l from fun h => by have := h.1; have := HL.out; omega)]
    go_enter Tryz.func34, Tryz.ntmps34
    go_wp2_with fail
    go_ret
    exact ⟨rfl, Below.refl _ _⟩
  · go_enter Tryz.func34, Tryz.ntmps34
    go_wp2_with fail
    go_loopw [14] (fun i wr => ∃ (k : Nat), k ≤ L ∧ i = .int .i64 k ∧ Hid (Upto MayP AnyP l k) ∧ Hid (Below w.heap.size w wr)) (fun i _ => L - (intOf i).toNat)
    case atStart => exact ⟨0, by omega, rfl, Lib.hid (upto_zero _ _ _), Lib.hid (Below.refl _ _)⟩
    case round =>
      obtain ⟨k, hk, rfl, HU, HB⟩ := hrel
      by_cases hlt : k < L
      · have hlt' : (k : Int) < (L : Int) := by omega
        have hkl : k < l.length := by rw [← HL.out]; exact hlt
        obtain ⟨r, o, rfl, hr, hc⟩ := HT.out (by have := HL.out; omega)
        have hck := (HB.out.cell (p := ⟨r, _, none⟩) hr).trans (hc k hkl)
        obtain ⟨x, hx⟩ : ∃ x, x = l[k] := ⟨_, rfl⟩
        rw [← hx] at hck
        have HX := Lib.hid hx
        have HM := Lib.hid (fun W => may_any x W)
        cases hm : pb (MayP x) with
        | false =>
          have HN := Lib.hid (not_pb hm)
          clear hc hx
          go_wp2_with fail
          refine (HM.out _).mono ?_
          rintro e w' ⟨rfl, rfl⟩
          go_wp2_with fail
          go_ret
          refine ⟨?_, HB.out⟩
          rw [pb_false (fun h => by
            have := (h.2 k hkl).1
            rw [← HX.out] at this
            exact HN.out this)]
          rfl
        | true =>
          have HMX := Lib.hid (of_pb hm)
          by_cases hk0 : 0 < k
          · have hk0' : (0 : Int) < (k : Int) := by omega
            have hcp := (HB.out.cell (p := ⟨r, _, none⟩) hr).trans (hc (k - 1) (by omega))
            obtain ⟨y, hy⟩ : ∃ y, y = l[k - 1] := ⟨_, rfl⟩
            rw [← hy] at hcp
            have HY := Lib.hid hy
            have HA := Lib.hid (fun W => any_str_pb y x W)
            clear hc hx hy
            cases ha : pb (AnyP y x) with
            | false =>
              have HN := Lib.hid (not_pb ha)
              go_wp2_with fail
              refine (HM.out _).mono ?_
              rintro e w' ⟨rfl, rfl⟩
              go_wp2_with fail
              refine (HA.out _).mono ?_
              rintro e w' ⟨rfl, rfl⟩
              go_wp2_with fail
              go_ret
              refine ⟨?_, HB.out⟩
              rw [pb_false (fun h => by
                have := (h.2 k hkl).2 hk0
                rw [← HX.out, ← HY.out] at this
                exact HN.out this)]
              rfl
            | true =>
              have HN := Lib.hid (of_pb ha)
              go_wp2_with fail
              refine (HM.out _).mono ?_
              rintro e w' ⟨rfl, rfl⟩
              go_wp2_with fail
              refine (HA.out _).mono ?_
              rintro e w' ⟨rfl, rfl⟩
              go_wp2_with fail
              go_roundw
              case rel => exact ⟨k + 1, by omega, by go_num, Lib.hid (upto_succ HU.out hkl (by rw [← HX.out]; exact HMX.out) (fun _ => by rw [← HX.out, ← HY.out]; exact HN.out)), HB⟩
              case measure => simp [intOf]; omega
          · have hk0' : ¬ (0 : Int) < (k : Int) := by omega
            clear hc hx
            go_wp2_with fail
            refine (HM.out _).mono ?_
            rintro e w' ⟨rfl, rfl⟩
            go_wp2_with fail
            go_roundw
            case rel => exact ⟨k + 1, by omega, by go_num, Lib.hid (upto_succ HU.out hkl (by rw [← HX.out]; exact HMX.out) (fun h => absurd h hk0)), HB⟩
            case measure => simp [intOf]; omega
      · have hlt' : ¬ (k : Int) < (L : Int) := by omega
        have hkL : k = l.length := by have := HL.out; omega
        have HK := Lib.hid hkL
        clear hkL
        go_wp2_with fail
        go_ret
        refine ⟨?_, HB.out⟩
        have hu := HU.out
        rw [HK.out] at hu
        rw [pb_true (ris_of_upto (by have := HL.out; omega) hu)]
        rfl
end Go.Proofs.YtpnmhldaaaemeaaGreat.Snp
