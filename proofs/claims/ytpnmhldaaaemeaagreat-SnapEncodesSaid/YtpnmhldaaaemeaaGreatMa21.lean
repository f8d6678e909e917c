import Derived.Test.YtpnmhldaaaemeaaGreatMa19
import Derived.Test.YtpnmhldaaaemeaaGreatMa20
import Derived.Test.YtpnmhldaaaemeaaGreatMa7
/- Chapter 24: may a value be, in the document. Printed by gen_may24.py. -/
namespace Go.Proofs.YtpnmhldaaaemeaaGreat.Snp
open Go.RowKit Go.Proofs.YtpnmhldaaaemeaaGreat.Pin

theorem rtext_any (s : ByteArray) (w : World) : Calls Tryz.prog 77 #[.string s] w fun e w' => e = .returned (.bool (pb (MayP s))) ∧ w = w' := by
  by_cases h : MayP s
  · rw [pb_true h]; exact rtext_yes h w
  · rw [pb_false h]; exact rtext_no h w
theorem texts_iff {l : List ByteArray} : Ris MayP AnyP l ↔ AllL MayP l := ⟨fun h => ⟨h.1, fun j hj => (h.2 j hj).1⟩, fun h => ⟨h.1, fun j hj => ⟨h.2 j hj, fun _ => trivial⟩⟩⟩
/-- may a value be -/
def MayV (v : Va) : Prop := (1 ≤ v.kind ∧ v.kind ≤ 6) ∧ PlainP v ∧ KindP v
structure Nums (v : Va) (k n0 n1 n2 n3 n4 n5 : Nat) : Prop where
  kind : v.kind = k
  t : n0 = v.text.size
  a : n1 = v.list.length
  b : n2 = v.hash.length
  c : n3 = v.set.length
  d : n4 = v.zset.length
  e : n5 = v.stream.length
def Zeros (v : Va) (k n0 n1 n2 n3 n4 n5 : Nat) : Prop := (k = 1 ∨ n0 = 0) ∧ (k = 2 ∨ n1 = 0) ∧ (k = 3 ∨ n2 = 0) ∧ (k = 4 ∨ n3 = 0) ∧ (k = 5 ∨ n4 = 0) ∧ (k = 6 ∨ (n5 = 0 ∧ v.ms = 0 ∧ v.seq = 0))
theorem size_empty {s : ByteArray} : s = ⟨#[]⟩ ↔ s.size = 0 := by
  constructor
  · rintro rfl; rfl
  · intro h
    cases s with | mk a => exact congrArg _ (Array.eq_empty_of_size_eq_zero h)
theorem plain_iff {v : Va} {k n0 n1 n2 n3 n4 n5 : Nat} (h : Nums v k n0 n1 n2 n3 n4 n5) : PlainP v ↔ Zeros v k n0 n1 n2 n3 n4 n5 := by
  unfold PlainP Zeros
  rw [size_empty, h.kind, h.t, h.a, h.b, h.c, h.d, h.e]
theorem mayv_iff {v : Va} {k n0 n1 n2 n3 n4 n5 : Nat} {R : Prop} (h : Nums v k n0 n1 n2 n3 n4 n5) (hk : 1 ≤ k ∧ k ≤ 6) (hz : Zeros v k n0 n1 n2 n3 n4 n5) (hR : KindP v ↔ R) : R ↔ MayV v := by
  unfold MayV
  rw [plain_iff h, hR, h.kind]
  exact ⟨fun r => ⟨hk, hz, r⟩, fun r => r.2.2⟩
theorem mayv_no {v : Va} {k n0 n1 n2 n3 n4 n5 : Nat} (h : Nums v k n0 n1 n2 n3 n4 n5) (hz : ¬ Zeros v k n0 n1 n2 n3 n4 n5) : ¬ MayV v := fun r => hz ((plain_iff h).1 r.2.1)
set_option maxHeartbeats 4000000 in
set_option maxRecDepth 100000 in
theorem may_1 (v : Va) (c : Cl) (w : World) (hv : ValAt w w.heap.size c v) (hB : VaB v) (hk : v.kind = 1) : Asks 78 #[vV v c] w (MayV v) := by
  obtain ⟨lv, hv', sv, zv, ev⟩ := c
  have HV := Lib.hid hv
  obtain ⟨A1, c1, e1, -⟩ := hv.list
  obtain ⟨A2, c2, e2, -⟩ := hv.hash
  obtain ⟨A3, c3, e3, -⟩ := hv.set
  obtain ⟨A4, c4, e4, -⟩ := hv.zset
  obtain ⟨A5, c5, e5, -⟩ := hv.stream
  obtain rfl : lv = .slice A1 v.list.length c1 := e1
  obtain rfl : hv' = .slice A2 v.hash.length c2 := e2
  obtain rfl : sv = .slice A3 v.set.length c3 := e3
  obtain rfl : zv = .slice A4 v.zset.length c4 := e4
  obtain rfl : ev = .slice A5 v.stream.length c5 := e5
  clear hv
  unfold Asks
  have HCON : Hid (∀ o, Asks 77 #[.string v.text] (w.alloc o) (MayP v.text)) := Lib.hid (fun o => (Asks.same (rtext_any v.text (w.alloc o))))
  have b0 := hB.text
  have b1 := hB.list
  have b2 := hB.hash
  have b3 := hB.set
  have b4 := hB.zset
  have b5 := hB.stream
  have HVB := Lib.hid hB
  clear hB HV
  obtain ⟨n0, h0⟩ : ∃ n, n = v.text.size := ⟨_, rfl⟩
  obtain ⟨n1, h1⟩ : ∃ n, n = v.list.length := ⟨_, rfl⟩
  obtain ⟨n2, h2⟩ : ∃ n, n = v.hash.length := ⟨_, rfl⟩
  obtain ⟨n3, h3⟩ : ∃ n, n = v.set.length := ⟨_, rfl⟩
  obtain ⟨n4, h4⟩ : ∃ n, n = v.zset.length := ⟨_, rfl⟩
  obtain ⟨n5, h5⟩ : ∃ n, n = v.stream.length := ⟨_, rfl⟩
  rw [← h1] at b1
  rw [← h2] at b2
  rw [← h3] at b3
  rw [← h4] at b4
  rw [← h5] at b5
  rw [← h1, ← h2, ← h3, ← h4, ← h5]
  have HN : Hid (Nums v 1 n0 n1 n2 n3 n4 n5) := Lib.hid ⟨hk, h0, h1, h2, h3, h4, h5⟩
  have H0 := Lib.hid h0
  clear h0 h1 h2 h3 h4 h5
  unfold vV
  rw [hk]
  have HK := Lib.hid hk
  clear hk
  go_enter Tryz.func78, Tryz.ntmps78
  go_wp2_with fail
  all_goals first
    | (go_ret; exact ⟨ret_no (mayv_no HN.out (by unfold Zeros; have := H0.out; omega)), (Below.refl _ _).alloc (Nat.le_refl _) _⟩)
    | fail
    | skip
  refine (HCON.out _).mono ?_
  rintro e w1 ⟨rfl, hb1⟩
  have HB1 : Hid (Below w.heap.size w w1) := Lib.hid (((Below.refl w.heap.size w).alloc (Nat.le_refl _) _).trans (hb1.mono (by simp)))
  have hz : Zeros v 1 n0 n1 n2 n3 n4 n5 := by unfold Zeros; have := H0.out; omega
  have HZ := Lib.hid hz
  clear hb1 hz
  go_wp2_with fail
  go_ret
  refine ⟨?_, HB1.out⟩
  rw [← pb_congr (mayv_iff HN.out (by omega) HZ.out (R := MayP v.text) (by unfold KindP; rw [HK.out]; simp))]
  rfl
set_option maxHeartbeats 4000000 in
set_option maxRecDepth 100000 in
theorem may_2 (v : Va) (c : Cl) (w : World) (hv : ValAt w w.heap.size c v) (hB : VaB v) (hk : v.kind = 2) : Asks 78 #[vV v c] w (MayV v) := by
  obtain ⟨lv, hv', sv, zv, ev⟩ := c
  have HV := Lib.hid hv
  obtain ⟨A1, c1, e1, -⟩ := hv.list
  obtain ⟨A2, c2, e2, -⟩ := hv.hash
  obtain ⟨A3, c3, e3, -⟩ := hv.set
  obtain ⟨A4, c4, e4, -⟩ := hv.zset
  obtain ⟨A5, c5, e5, -⟩ := hv.stream
  obtain rfl : lv = .slice A1 v.list.length c1 := e1
  obtain rfl : hv' = .slice A2 v.hash.length c2 := e2
  obtain rfl : sv = .slice A3 v.set.length c3 := e3
  obtain rfl : zv = .slice A4 v.zset.length c4 := e4
  obtain rfl : ev = .slice A5 v.stream.length c5 := e5
  clear hv
  unfold Asks
  have HCON : Hid (∀ o, Asks 104 #[.slice A1 v.list.length c1] (w.alloc o) (AllL MayP v.list)) := Lib.hid (fun o => (ref_texts v.list _ (w.alloc o) ((HV.out.list.below ((Below.refl _ w).alloc (Nat.le_refl _) o)).more (by simp)) hB.list))
  have b0 := hB.text
  have b1 := hB.list
  have b2 := hB.hash
  have b3 := hB.set
  have b4 := hB.zset
  have b5 := hB.stream
  have HVB := Lib.hid hB
  clear hB HV
  obtain ⟨n0, h0⟩ : ∃ n, n = v.text.size := ⟨_, rfl⟩
  obtain ⟨n1, h1⟩ : ∃ n, n = v.list.length := ⟨_, rfl⟩
  obtain ⟨n2, h2⟩ : ∃ n, n = v.hash.length := ⟨_, rfl⟩
  obtain ⟨n3, h3⟩ : ∃ n, n = v.set.length := ⟨_, rfl⟩
  obtain ⟨n4, h4⟩ : ∃ n, n = v.zset.length := ⟨_, rfl⟩
  obtain ⟨n5, h5⟩ : ∃ n, n = v.stream.length := ⟨_, rfl⟩
  rw [← h1] at b1
  rw [← h2] at b2
  rw [← h3] at b3
  rw [← h4] at b4
  rw [← h5] at b5
  rw [← h1] at HCON
  rw [← h1, ← h2, ← h3, ← h4, ← h5]
  have HN : Hid (Nums v 2 n0 n1 n2 n3 n4 n5) := Lib.hid ⟨hk, h0, h1, h2, h3, h4, h5⟩
  have H0 := Lib.hid h0
  clear h0 h1 h2 h3 h4 h5
  unfold vV
  rw [hk]
  have HK := Lib.hid hk
  clear hk
  go_enter Tryz.func78, Tryz.ntmps78
  go_wp2_with fail
  all_goals first
    | (go_ret; exact ⟨ret_no (mayv_no HN.out (by unfold Zeros; have := H0.out; omega)), (Below.refl _ _).alloc (Nat.le_refl _) _⟩)
    | (go_ret; exact ⟨ret_no (fun h => by have h9 := (h.2.2 : KindP v); unfold KindP at h9; rw [HK.out] at h9; simp at h9; have := HN.out.a; omega), (Below.refl _ _).alloc (Nat.le_refl _) _⟩)
    | skip
  refine (HCON.out _).mono ?_
  rintro e w1 ⟨rfl, hb1⟩
  have HB1 : Hid (Below w.heap.size w w1) := Lib.hid (((Below.refl w.heap.size w).alloc (Nat.le_refl _) _).trans (hb1.mono (by simp)))
  have hz : Zeros v 2 n0 n1 n2 n3 n4 n5 := by unfold Zeros; have := H0.out; omega
  have HZ := Lib.hid hz
  clear hb1 hz
  go_wp2_with fail
  go_ret
  refine ⟨?_, HB1.out⟩
  rw [← pb_congr (mayv_iff HN.out (by omega) HZ.out (R := AllL MayP v.list) (by unfold KindP; rw [HK.out]; simp; exact ⟨fun h => texts_iff.1 h.2, fun h => ⟨by have := HN.out.a; omega, texts_iff.2 h⟩⟩))]
  rfl
set_option maxHeartbeats 4000000 in
set_option maxRecDepth 100000 in
theorem may_3 (v : Va) (c : Cl) (w : World) (hv : ValAt w w.heap.size c v) (hB : VaB v) (hk : v.kind = 3) : Asks 78 #[vV v c] w (MayV v) := by
  obtain ⟨lv, hv', sv, zv, ev⟩ := c
  have HV := Lib.hid hv
  obtain ⟨A1, c1, e1, -⟩ := hv.list
  obtain ⟨A2, c2, e2, -⟩ := hv.hash
  obtain ⟨A3, c3, e3, -⟩ := hv.set
  obtain ⟨A4, c4, e4, -⟩ := hv.zset
  obtain ⟨A5, c5, e5, -⟩ := hv.stream
  obtain rfl : lv = .slice A1 v.list.length c1 := e1
  obtain rfl : hv' = .slice A2 v.hash.length c2 := e2
  obtain rfl : sv = .slice A3 v.set.length c3 := e3
  obtain rfl : zv = .slice A4 v.zset.length c4 := e4
  obtain rfl : ev = .slice A5 v.stream.length c5 := e5
  clear hv
  unfold Asks
  have HCON : Hid (∀ o, Asks 105 #[.slice A2 v.hash.length c2] (w.alloc o) (0 < v.hash.length ∧ Ris PairP (fun p q => LtS p.1 q.1) v.hash)) := Lib.hid (fun o => (ref_hash v.hash _ (w.alloc o) ((HV.out.hash.below ((Below.refl _ w).alloc (Nat.le_refl _) o)).more (by simp)) hB.hash))
  have b0 := hB.text
  have b1 := hB.list
  have b2 := hB.hash
  have b3 := hB.set
  have b4 := hB.zset
  have b5 := hB.stream
  have HVB := Lib.hid hB
  clear hB HV
  obtain ⟨n0, h0⟩ : ∃ n, n = v.text.size := ⟨_, rfl⟩
  obtain ⟨n1, h1⟩ : ∃ n, n = v.list.length := ⟨_, rfl⟩
  obtain ⟨n2, h2⟩ : ∃ n, n = v.hash.length := ⟨_, rfl⟩
  obtain ⟨n3, h3⟩ : ∃ n, n = v.set.length := ⟨_, rfl⟩
  obtain ⟨n4, h4⟩ : ∃ n, n = v.zset.length := ⟨_, rfl⟩
  obtain ⟨n5, h5⟩ : ∃ n, n = v.stream.length := ⟨_, rfl⟩
  rw [← h1] at b1
  rw [← h2] at b2
  rw [← h3] at b3
  rw [← h4] at b4
  rw [← h5] at b5
  rw [← h2] at HCON
  rw [← h1, ← h2, ← h3, ← h4, ← h5]
  have HN : Hid (Nums v 3 n0 n1 n2 n3 n4 n5) := Lib.hid ⟨hk, h0, h1, h2, h3, h4, h5⟩
  have H0 := Lib.hid h0
  clear h0 h1 h2 h3 h4 h5
  unfold vV
  rw [hk]
  have HK := Lib.hid hk
  clear hk
  go_enter Tryz.func78, Tryz.ntmps78
  go_wp2_with fail
  all_goals first
    | (go_ret; exact ⟨ret_no (mayv_no HN.out (by unfold Zeros; have := H0.out; omega)), (Below.refl _ _).alloc (Nat.le_refl _) _⟩)
    | fail
    | skip
  refine (HCON.out _).mono ?_
  rintro e w1 ⟨rfl, hb1⟩
  have HB1 : Hid (Below w.heap.size w w1) := Lib.hid (((Below.refl w.heap.size w).alloc (Nat.le_refl _) _).trans (hb1.mono (by simp)))
  have hz : Zeros v 3 n0 n1 n2 n3 n4 n5 := by unfold Zeros; have := H0.out; omega
  have HZ := Lib.hid hz
  clear hb1 hz
  go_wp2_with fail
  go_ret
  refine ⟨?_, HB1.out⟩
  rw [← pb_congr (mayv_iff HN.out (by omega) HZ.out (R := 0 < n2 ∧ Ris PairP (fun p q => LtS p.1 q.1) v.hash) (by unfold KindP; rw [HK.out, HN.out.b]; simp))]
  rfl
set_option maxHeartbeats 4000000 in
set_option maxRecDepth 100000 in
theorem may_4 (v : Va) (c : Cl) (w : World) (hv : ValAt w w.heap.size c v) (hB : VaB v) (hk : v.kind = 4) : Asks 78 #[vV v c] w (MayV v) := by
  obtain ⟨lv, hv', sv, zv, ev⟩ := c
  have HV := Lib.hid hv
  obtain ⟨A1, c1, e1, -⟩ := hv.list
  obtain ⟨A2, c2, e2, -⟩ := hv.hash
  obtain ⟨A3, c3, e3, -⟩ := hv.set
  obtain ⟨A4, c4, e4, -⟩ := hv.zset
  obtain ⟨A5, c5, e5, -⟩ := hv.stream
  obtain rfl : lv = .slice A1 v.list.length c1 := e1
  obtain rfl : hv' = .slice A2 v.hash.length c2 := e2
  obtain rfl : sv = .slice A3 v.set.length c3 := e3
  obtain rfl : zv = .slice A4 v.zset.length c4 := e4
  obtain rfl : ev = .slice A5 v.stream.length c5 := e5
  clear hv
  unfold Asks
  have HCON : Hid (∀ o, Asks 106 #[.slice A3 v.set.length c3] (w.alloc o) (0 < v.set.length ∧ Ris MayP LtS v.set)) := Lib.hid (fun o => (ref_set v.set _ (w.alloc o) ((HV.out.set.below ((Below.refl _ w).alloc (Nat.le_refl _) o)).more (by simp)) hB.set))
  have b0 := hB.text
  have b1 := hB.list
  have b2 := hB.hash
  have b3 := hB.set
  have b4 := hB.zset
  have b5 := hB.stream
  have HVB := Lib.hid hB
  clear hB HV
  obtain ⟨n0, h0⟩ : ∃ n, n = v.text.size := ⟨_, rfl⟩
  obtain ⟨n1, h1⟩ : ∃ n, n = v.list.length := ⟨_, rfl⟩
  obtain ⟨n2, h2⟩ : ∃ n, n = v.hash.length := ⟨_, rfl⟩
  obtain ⟨n3, h3⟩ : ∃ n, n = v.set.length := ⟨_, rfl⟩
  obtain ⟨n4, h4⟩ : ∃ n, n = v.zset.length := ⟨_, rfl⟩
  obtain ⟨n5, h5⟩ : ∃ n, n = v.stream.length := ⟨_, rfl⟩
  rw [← h1] at b1
  rw [← h2] at b2
  rw [← h3] at b3
  rw [← h4] at b4
  rw [← h5] at b5
  rw [← h3] at HCON
  rw [← h1, ← h2, ← h3, ← h4, ← h5]
  have HN : Hid (Nums v 4 n0 n1 n2 n3 n4 n5) := Lib.hid ⟨hk, h0, h1, h2, h3, h4, h5⟩
  have H0 := Lib.hid h0
  clear h0 h1 h2 h3 h4 h5
  unfold vV
  rw [hk]
  have HK := Lib.hid hk
  clear hk
  go_enter Tryz.func78, Tryz.ntmps78
  go_wp2_with fail
  all_goals first
    | (go_ret; exact ⟨ret_no (mayv_no HN.out (by unfold Zeros; have := H0.out; omega)), (Below.refl _ _).alloc (Nat.le_refl _) _⟩)
    | fail
    | skip
  refine (HCON.out _).mono ?_
  rintro e w1 ⟨rfl, hb1⟩
  have HB1 : Hid (Below w.heap.size w w1) := Lib.hid (((Below.refl w.heap.size w).alloc (Nat.le_refl _) _).trans (hb1.mono (by simp)))
  have hz : Zeros v 4 n0 n1 n2 n3 n4 n5 := by unfold Zeros; have := H0.out; omega
  have HZ := Lib.hid hz
  clear hb1 hz
  go_wp2_with fail
  go_ret
  refine ⟨?_, HB1.out⟩
  rw [← pb_congr (mayv_iff HN.out (by omega) HZ.out (R := 0 < n3 ∧ Ris MayP LtS v.set) (by unfold KindP; rw [HK.out, HN.out.c]; simp))]
  rfl
set_option maxHeartbeats 4000000 in
set_option maxRecDepth 100000 in
theorem may_5 (v : Va) (c : Cl) (w : World) (hv : ValAt w w.heap.size c v) (hB : VaB v) (hk : v.kind = 5) : Asks 78 #[vV v c] w (MayV v) := by
  obtain ⟨lv, hv', sv, zv, ev⟩ := c
  have HV := Lib.hid hv
  obtain ⟨A1, c1, e1, -⟩ := hv.list
  obtain ⟨A2, c2, e2, -⟩ := hv.hash
  obtain ⟨A3, c3, e3, -⟩ := hv.set
  obtain ⟨A4, c4, e4, -⟩ := hv.zset
  obtain ⟨A5, c5, e5, -⟩ := hv.stream
  obtain rfl : lv = .slice A1 v.list.length c1 := e1
  obtain rfl : hv' = .slice A2 v.hash.length c2 := e2
  obtain rfl : sv = .slice A3 v.set.length c3 := e3
  obtain rfl : zv = .slice A4 v.zset.length c4 := e4
  obtain rfl : ev = .slice A5 v.stream.length c5 := e5
  clear hv
  unfold Asks
  have HCON : Hid (∀ o, Asks 107 #[.slice A4 v.zset.length c4] (w.alloc o) (0 < v.zset.length ∧ ZsP v.zset)) := Lib.hid (fun o => (ref_zset v.zset _ (w.alloc o) ((HV.out.zset.below ((Below.refl _ w).alloc (Nat.le_refl _) o)).more (by simp)) hB.zset hB.bits))
  have b0 := hB.text
  have b1 := hB.list
  have b2 := hB.hash
  have b3 := hB.set
  have b4 := hB.zset
  have b5 := hB.stream
  have HVB := Lib.hid hB
  clear hB HV
  obtain ⟨n0, h0⟩ : ∃ n, n = v.text.size := ⟨_, rfl⟩
  obtain ⟨n1, h1⟩ : ∃ n, n = v.list.length := ⟨_, rfl⟩
  obtain ⟨n2, h2⟩ : ∃ n, n = v.hash.length := ⟨_, rfl⟩
  obtain ⟨n3, h3⟩ : ∃ n, n = v.set.length := ⟨_, rfl⟩
  obtain ⟨n4, h4⟩ : ∃ n, n = v.zset.length := ⟨_, rfl⟩
  obtain ⟨n5, h5⟩ : ∃ n, n = v.stream.length := ⟨_, rfl⟩
  rw [← h1] at b1
  rw [← h2] at b2
  rw [← h3] at b3
  rw [← h4] at b4
  rw [← h5] at b5
  rw [← h4] at HCON
  rw [← h1, ← h2, ← h3, ← h4, ← h5]
  have HN : Hid (Nums v 5 n0 n1 n2 n3 n4 n5) := Lib.hid ⟨hk, h0, h1, h2, h3, h4, h5⟩
  have H0 := Lib.hid h0
  clear h0 h1 h2 h3 h4 h5
  unfold vV
  rw [hk]
  have HK := Lib.hid hk
  clear hk
  go_enter Tryz.func78, Tryz.ntmps78
  go_wp2_with fail
  all_goals first
    | (go_ret; exact ⟨ret_no (mayv_no HN.out (by unfold Zeros; have := H0.out; omega)), (Below.refl _ _).alloc (Nat.le_refl _) _⟩)
    | fail
    | skip
  refine (HCON.out _).mono ?_
  rintro e w1 ⟨rfl, hb1⟩
  have HB1 : Hid (Below w.heap.size w w1) := Lib.hid (((Below.refl w.heap.size w).alloc (Nat.le_refl _) _).trans (hb1.mono (by simp)))
  have hz : Zeros v 5 n0 n1 n2 n3 n4 n5 := by unfold Zeros; have := H0.out; omega
  have HZ := Lib.hid hz
  clear hb1 hz
  go_wp2_with fail
  go_ret
  refine ⟨?_, HB1.out⟩
  rw [← pb_congr (mayv_iff HN.out (by omega) HZ.out (R := 0 < n4 ∧ ZsP v.zset) (by unfold KindP; rw [HK.out, HN.out.d]; simp))]
  rfl
set_option maxHeartbeats 4000000 in
set_option maxRecDepth 100000 in
theorem may_6 (v : Va) (c : Cl) (w : World) (hv : ValAt w w.heap.size c v) (hB : VaB v) (hk : v.kind = 6) : Asks 78 #[vV v c] w (MayV v) := by
  obtain ⟨lv, hv', sv, zv, ev⟩ := c
  have HV := Lib.hid hv
  obtain ⟨A1, c1, e1, -⟩ := hv.list
  obtain ⟨A2, c2, e2, -⟩ := hv.hash
  obtain ⟨A3, c3, e3, -⟩ := hv.set
  obtain ⟨A4, c4, e4, -⟩ := hv.zset
  obtain ⟨A5, c5, e5, -⟩ := hv.stream
  obtain rfl : lv = .slice A1 v.list.length c1 := e1
  obtain rfl : hv' = .slice A2 v.hash.length c2 := e2
  obtain rfl : sv = .slice A3 v.set.length c3 := e3
  obtain rfl : zv = .slice A4 v.zset.length c4 := e4
  obtain rfl : ev = .slice A5 v.stream.length c5 := e5
  clear hv
  unfold Asks
  have HCON : Hid (∀ o, Asks 108 #[.slice A5 v.stream.length c5, idV (v.ms, v.seq)] (w.alloc o) (RStr (v.ms, v.seq) v.stream)) := Lib.hid (fun o => (ref_stream v.stream _ v.ms v.seq (w.alloc o) ((HV.out.stream.below ((Below.refl _ w).alloc (Nat.le_refl _) o)).more (by simp)) hB.stream hB.pairs))
  have b0 := hB.text
  have b1 := hB.list
  have b2 := hB.hash
  have b3 := hB.set
  have b4 := hB.zset
  have b5 := hB.stream
  have HVB := Lib.hid hB
  clear hB HV
  obtain ⟨n0, h0⟩ : ∃ n, n = v.text.size := ⟨_, rfl⟩
  obtain ⟨n1, h1⟩ : ∃ n, n = v.list.length := ⟨_, rfl⟩
  obtain ⟨n2, h2⟩ : ∃ n, n = v.hash.length := ⟨_, rfl⟩
  obtain ⟨n3, h3⟩ : ∃ n, n = v.set.length := ⟨_, rfl⟩
  obtain ⟨n4, h4⟩ : ∃ n, n = v.zset.length := ⟨_, rfl⟩
  obtain ⟨n5, h5⟩ : ∃ n, n = v.stream.length := ⟨_, rfl⟩
  rw [← h1] at b1
  rw [← h2] at b2
  rw [← h3] at b3
  rw [← h4] at b4
  rw [← h5] at b5
  rw [← h5] at HCON
  rw [← h1, ← h2, ← h3, ← h4, ← h5]
  have HN : Hid (Nums v 6 n0 n1 n2 n3 n4 n5) := Lib.hid ⟨hk, h0, h1, h2, h3, h4, h5⟩
  have H0 := Lib.hid h0
  clear h0 h1 h2 h3 h4 h5
  unfold vV
  rw [hk]
  have HK := Lib.hid hk
  clear hk
  go_enter Tryz.func78, Tryz.ntmps78
  go_wp2_with fail
  all_goals first
    | (go_ret; exact ⟨ret_no (mayv_no HN.out (by unfold Zeros; have := H0.out; omega)), (Below.refl _ _).alloc (Nat.le_refl _) _⟩)
    | fail
    | skip
  refine (HCON.out _).mono ?_
  rintro e w1 ⟨rfl, hb1⟩
  have HB1 : Hid (Below w.heap.size w w1) := Lib.hid (((Below.refl w.heap.size w).alloc (Nat.le_refl _) _).trans (hb1.mono (by simp)))
  have hz : Zeros v 6 n0 n1 n2 n3 n4 n5 := by unfold Zeros; have := H0.out; omega
  have HZ := Lib.hid hz
  clear hb1 hz
  go_wp2_with fail
  go_ret
  refine ⟨?_, HB1.out⟩
  rw [← pb_congr (mayv_iff HN.out (by omega) HZ.out (R := RStr (v.ms, v.seq) v.stream) (by unfold KindP; rw [HK.out]; simp; exact stream_iff))]
  rfl
set_option maxHeartbeats 4000000 in
set_option maxRecDepth 100000 in
theorem may_x (v : Va) (c : Cl) (w : World) (hv : ValAt w w.heap.size c v) (hB : VaB v) (hk : ¬ (1 ≤ v.kind ∧ v.kind ≤ 6)) : Asks 78 #[vV v c] w (MayV v) := by
  obtain ⟨lv, hv', sv, zv, ev⟩ := c
  have HV := Lib.hid hv
  obtain ⟨A1, c1, e1, -⟩ := hv.list
  obtain ⟨A2, c2, e2, -⟩ := hv.hash
  obtain ⟨A3, c3, e3, -⟩ := hv.set
  obtain ⟨A4, c4, e4, -⟩ := hv.zset
  obtain ⟨A5, c5, e5, -⟩ := hv.stream
  obtain rfl : lv = .slice A1 v.list.length c1 := e1
  obtain rfl : hv' = .slice A2 v.hash.length c2 := e2
  obtain rfl : sv = .slice A3 v.set.length c3 := e3
  obtain rfl : zv = .slice A4 v.zset.length c4 := e4
  obtain rfl : ev = .slice A5 v.stream.length c5 := e5
  clear hv
  unfold Asks
  have b0 := hB.text
  have b1 := hB.list
  have b2 := hB.hash
  have b3 := hB.set
  have b4 := hB.zset
  have b5 := hB.stream
  have HVB := Lib.hid hB
  clear hB HV
  obtain ⟨n0, h0⟩ : ∃ n, n = v.text.size := ⟨_, rfl⟩
  obtain ⟨n1, h1⟩ : ∃ n, n = v.list.length := ⟨_, rfl⟩
  obtain ⟨n2, h2⟩ : ∃ n, n = v.hash.length := ⟨_, rfl⟩
  obtain ⟨n3, h3⟩ : ∃ n, n = v.set.length := ⟨_, rfl⟩
  obtain ⟨n4, h4⟩ : ∃ n, n = v.zset.length := ⟨_, rfl⟩
  obtain ⟨n5, h5⟩ : ∃ n, n = v.stream.length := ⟨_, rfl⟩
  rw [← h1] at b1
  rw [← h2] at b2
  rw [← h3] at b3
  rw [← h4] at b4
  rw [← h5] at b5
  rw [← h1, ← h2, ← h3, ← h4, ← h5]
  have HN : Hid (Nums v v.kind n0 n1 n2 n3 n4 n5) := Lib.hid ⟨rfl, h0, h1, h2, h3, h4, h5⟩
  have H0 := Lib.hid h0
  clear h0 h1 h2 h3 h4 h5
  have e1 : ((v.kind : Int) == 1) = false := by
    cases hq : ((v.kind : Int) == 1) with
    | false => rfl
    | true => exact absurd (by have := eq_of_beq hq; omega) hk
  have f1 : ((v.kind : Int) != 1) = true := by
    cases hq : ((v.kind : Int) != 1) with
    | true => rfl
    | false => exact absurd (by have := bne_eq_false_iff_eq.1 hq; omega) hk
  have e2 : ((v.kind : Int) == 2) = false := by
    cases hq : ((v.kind : Int) == 2) with
    | false => rfl
    | true => exact absurd (by have := eq_of_beq hq; omega) hk
  have f2 : ((v.kind : Int) != 2) = true := by
    cases hq : ((v.kind : Int) != 2) with
    | true => rfl
    | false => exact absurd (by have := bne_eq_false_iff_eq.1 hq; omega) hk
  have e3 : ((v.kind : Int) == 3) = false := by
    cases hq : ((v.kind : Int) == 3) with
    | false => rfl
    | true => exact absurd (by have := eq_of_beq hq; omega) hk
  have f3 : ((v.kind : Int) != 3) = true := by
    cases hq : ((v.kind : Int) != 3) with
    | true => rfl
    | false => exact absurd (by have := bne_eq_false_iff_eq.1 hq; omega) hk
  have e4 : ((v.kind : Int) == 4) = false := by
    cases hq : ((v.kind : Int) == 4) with
    | false => rfl
    | true => exact absurd (by have := eq_of_beq hq; omega) hk
  have f4 : ((v.kind : Int) != 4) = true := by
    cases hq : ((v.kind : Int) != 4) with
    | true => rfl
    | false => exact absurd (by have := bne_eq_false_iff_eq.1 hq; omega) hk
  have e5 : ((v.kind : Int) == 5) = false := by
    cases hq : ((v.kind : Int) == 5) with
    | false => rfl
    | true => exact absurd (by have := eq_of_beq hq; omega) hk
  have f5 : ((v.kind : Int) != 5) = true := by
    cases hq : ((v.kind : Int) != 5) with
    | true => rfl
    | false => exact absurd (by have := bne_eq_false_iff_eq.1 hq; omega) hk
  have e6 : ((v.kind : Int) == 6) = false := by
    cases hq : ((v.kind : Int) == 6) with
    | false => rfl
    | true => exact absurd (by have := eq_of_beq hq; omega) hk
  have f6 : ((v.kind : Int) != 6) = true := by
    cases hq : ((v.kind : Int) != 6) with
    | true => rfl
    | false => exact absurd (by have := bne_eq_false_iff_eq.1 hq; omega) hk
  have HK := Lib.hid hk
  clear hk
  go_enter Tryz.func78, Tryz.ntmps78
  go_wp2_with fail
  all_goals (go_ret; exact ⟨ret_no (fun h => HK.out h.1), (Below.refl _ _).alloc (Nat.le_refl _) _⟩)
theorem ref_may (v : Va) (c : Cl) (w : World) (hv : ValAt w w.heap.size c v) (hB : VaB v) : Asks 78 #[vV v c] w (MayV v) := by
  by_cases h : 1 ≤ v.kind ∧ v.kind ≤ 6
  · have hk : v.kind = 1 ∨ v.kind = 2 ∨ v.kind = 3 ∨ v.kind = 4 ∨ v.kind = 5 ∨ v.kind = 6 := by omega
    rcases hk with hk | hk | hk | hk | hk | hk
    · exact may_1 v c w hv hB hk
    · exact may_2 v c w hv hB hk
    · exact may_3 v c w hv hB hk
    · exact may_4 v c w hv hB hk
    · exact may_5 v c w hv hB hk
    · exact may_6 v c w hv hB hk
  · exact may_x v c w hv hB h
end Go.Proofs.YtpnmhldaaaemeaaGreat.Snp
/- Chapter 24: may an item be, in the document. Printed by gen_item24.py. -/
namespace Go.Proofs.YtpnmhldaaaemeaaGreat.Snp
open Go.RowKit Go.Proofs.YtpnmhldaaaemeaaGreat.Pin

theorem fine_iff {it : It} : FineP it ↔ (0 ≤ it.db ∧ it.db < 16) ∧ MayP it.key ∧ MayV it.val ∧ 0 ≤ it.dead ∧ it.dead ≤ 9007199254740992 :=
  ⟨fun h => ⟨h.1, h.2.1, ⟨h.2.2.2.1, h.2.2.2.2.1, h.2.2.2.2.2⟩, h.2.2.1.1, h.2.2.1.2⟩, fun h => ⟨h.1, h.2.1, ⟨h.2.2.2.1, h.2.2.2.2⟩, h.2.2.1.1, h.2.2.1.2.1, h.2.2.1.2.2⟩⟩
set_option maxHeartbeats 4000000 in
set_option maxRecDepth 100000 in
theorem ref_item (it : It) (c : Cl) (w : World) (hv : ValAt w w.heap.size c it.val) (hB : VaB it.val) : Asks 22 #[iV it c] w (FineP it) := by
  unfold Asks
  have hv0 : (Instr.loadAt 42 (.pointer (some ⟨w.heap.size, 2, none⟩))).run Tryz.prog (w.alloc (iO it c)) = .ok (vV it.val c) (w.alloc (iO it c)) := load_val it c _ w.heap.size (heap_alloc_new w _)
  have HM := Lib.hid (ref_may it.val c (w.alloc (iO it c)) ((hv.below ((Below.refl _ w).alloc (Nat.le_refl _) _)).more (by simp)) hB)
  have HT := Lib.hid (fun W => rtext_any it.key W)
  clear hv hB
  have hb0 : Below w.heap.size w (w.alloc (iO it c)) := (Below.refl _ w).alloc (Nat.le_refl _) _
  have HB0 := Lib.hid hb0
  clear hb0
  have hBx : ∀ n, Below w.heap.size w ((w.alloc (iO it c)).drewN n) := fun n => below_drewN HB0.out n
  have HBX := Lib.hid hBx
  clear hBx
  by_cases h1 : it.db < 0
  · have h1' : ¬ 0 ≤ it.db := by omega
    go_enter Tryz.func22, Tryz.ntmps22
    go_wp2_with fail
    go_ret
    exact ⟨ret_no (fun h => by have := h.1.1; omega), HB0.out⟩
  have h1' : 0 ≤ it.db := by omega
  by_cases h2 : ¬ it.db < 16
  · go_enter Tryz.func22, Tryz.ntmps22
    go_wp2_with fail
    go_ret
    exact ⟨ret_no (fun h => by have := h.1.2; omega), HB0.out⟩
  have h2 := Classical.not_not.1 h2
  by_cases h3 : ¬ MayP it.key
  · have q3 := pb_false h3
    have H3 := Lib.hid h3
    clear h3
    go_enter Tryz.func22, Tryz.ntmps22
    go_wp2_with fail
    refine (HT.out _).mono ?_
    rintro e w' ⟨rfl, rfl⟩
    go_wp2_with fail
    go_ret
    exact ⟨ret_no (fun h => H3.out h.2.1), HB0.out⟩
  have q3 := pb_true (Classical.not_not.1 h3)
  have H3 := Lib.hid (Classical.not_not.1 h3)
  clear h3
  by_cases h4 : ¬ MayV it.val
  · have q4 := pb_false h4
    have H4 := Lib.hid h4
    clear h4
    go_enter Tryz.func22, Tryz.ntmps22
    go_wp2_with fail
    refine (HT.out _).mono ?_
    rintro e w' ⟨rfl, rfl⟩
    go_wp2_with fail
    refine HM.out.mono ?_
    rintro e w1 ⟨rfl, hb1⟩
    have HB1 : Hid (Below w.heap.size w w1) := Lib.hid (HB0.out.trans (hb1.mono (by simp)))
    clear hb1
    go_wp2_with fail
    go_ret
    exact ⟨ret_no (fun h => H4.out (fine_iff.1 h).2.2.1), HB1.out⟩
  have q4 := pb_true (Classical.not_not.1 h4)
  have H4 := Lib.hid (Classical.not_not.1 h4)
  clear h4
  have hcall : ∀ P : Prop, P → P := fun _ h => h
  clear hcall
  by_cases h5 : 0 ≤ it.dead ∧ it.dead ≤ 9007199254740992
  · obtain ⟨h5, h6⟩ := h5
    go_enter Tryz.func22, Tryz.ntmps22
    go_wp2_with fail
    refine (HT.out _).mono ?_
    rintro e w' ⟨rfl, rfl⟩
    go_wp2_with fail
    refine HM.out.mono ?_
    rintro e w1 ⟨rfl, hb1⟩
    have HB1 : Hid (Below w.heap.size w w1) := Lib.hid (HB0.out.trans (hb1.mono (by simp)))
    have hbo : w1.heap[w.heap.size]? = some (iO it c) := (hb1.block _ (by simp)).trans (heap_alloc_new w _)
    have hd : w1.cell? ⟨w.heap.size, 11, none⟩ = some (.int .i64 it.dead) := by rw [Lib.cell_of_heap hbo]; rfl
    clear hb1 hbo
    go_wp2_with fail
    go_ret
    exact ⟨ret_yes (fine_iff.2 ⟨⟨h1', h2⟩, H3.out, H4.out, h5, h6⟩), HB1.out⟩
  · have H5 := Lib.hid h5
    by_cases h6 : 0 ≤ it.dead
    · have h7 : ¬ it.dead ≤ 9007199254740992 := fun h => h5 ⟨h6, h⟩
      have q7 : decide (it.dead ≤ 9007199254740992) = false := decide_eq_false h7
      clear h5
      go_enter Tryz.func22, Tryz.ntmps22
      go_wp2_with fail
      refine (HT.out _).mono ?_
      rintro e w' ⟨rfl, rfl⟩
      go_wp2_with fail
      refine HM.out.mono ?_
      rintro e w1 ⟨rfl, hb1⟩
      have HB1 : Hid (Below w.heap.size w w1) := Lib.hid (HB0.out.trans (hb1.mono (by simp)))
      have hbo : w1.heap[w.heap.size]? = some (iO it c) := (hb1.block _ (by simp)).trans (heap_alloc_new w _)
      have hd : w1.cell? ⟨w.heap.size, 11, none⟩ = some (.int .i64 it.dead) := by rw [Lib.cell_of_heap hbo]; rfl
      clear hb1 hbo
      go_wp2_with fail
      go_ret
      exact ⟨ret_no (fun h => H5.out (fine_iff.1 h).2.2.2), HB1.out⟩
    · clear h5
      go_enter Tryz.func22, Tryz.ntmps22
      go_wp2_with fail
      refine (HT.out _).mono ?_
      rintro e w' ⟨rfl, rfl⟩
      go_wp2_with fail
      refine HM.out.mono ?_
      rintro e w1 ⟨rfl, hb1⟩
      have HB1 : Hid (Below w.heap.size w w1) := Lib.hid (HB0.out.trans (hb1.mono (by simp)))
      have hbo : w1.heap[w.heap.size]? = some (iO it c) := (hb1.block _ (by simp)).trans (heap_alloc_new w _)
      have hd : w1.cell? ⟨w.heap.size, 11, none⟩ = some (.int .i64 it.dead) := by rw [Lib.cell_of_heap hbo]; rfl
      clear hb1 hbo
      go_wp2_with fail
      go_ret
      exact ⟨ret_no (fun h => H5.out (fine_iff.1 h).2.2.2), HB1.out⟩
end Go.Proofs.YtpnmhldaaaemeaaGreat.Snp
