/- Chapter 24: may a value of a kind be. Printed by mk_kinds24.py. -/
import Derived.Test.YtpnmhldaaaemeaaRisS24
import Derived.Carry
namespace Go.Proofs.Ytpnmhldaaaemeaa.Snp
open Go.RowKit Go.Proofs.Ytpnmhldaaaemeaa.Pin Go.Proofs.Ytpnmhldaaaemeaa.Mps

/-- how great a value's parts are -/
structure VaB (v : Va) : Prop where
  kind : v.kind < 256
  text : v.text.size ≤ 140737488351232
  list : v.list.length ≤ 140737488351232
  hash : v.hash.length ≤ 140737488351232
  set : v.set.length ≤ 140737488351232
  zset : v.zset.length ≤ 140737488351232
  stream : v.stream.length ≤ 140737488351232
  pairs : ∀ e ∈ v.stream, e.pairs.length ≤ 140737488351232
  bits : ∀ s ∈ v.zset, s.2 < 18446744073709551616
  ids : v.ms < 18446744073709551616 ∧ v.seq < 18446744073709551616
abbrev vV (v : Va) (c : Cl) : Value := .agg #[.int .u8 (v.kind : Int), .string v.text, c.lv, c.hv, c.sv, c.zv, c.ev, .int .u64 (v.ms : Int), .int .u64 (v.seq : Int)]
theorem text_kind (v : Va) (c : Cl) (w : World) : Asks 35 #[vV v c] w (MayP v.text) := by
  unfold Asks
  go_enter Try.func35, Try.ntmps35
  go_wp2_with fail
  refine (may_any v.text _).mono ?_
  rintro e w' ⟨rfl, rfl⟩
  go_wp2_with fail
  go_ret
  exact ⟨rfl, (Below.refl _ _).alloc (Nat.le_refl _) _⟩
set_option maxHeartbeats 1000000 in
theorem list_kind (v : Va) (c : Cl) (w : World) (hv : ValAt w w.heap.size c v) (hB : VaB v) : Asks 39 #[vV v c] w (0 < v.list.length ∧ Ris MayP AnyP v.list) := by
  have HV := Lib.hid hv
  have HB := Lib.hid hB
  obtain ⟨lv, hv', sv, zv, ev⟩ := c
  obtain ⟨A, cp, e, _⟩ := hv.list
  obtain rfl : lv = .slice A v.list.length cp := e
  unfold Asks
  have HK := Lib.hid (fun (W : World) (hW : Below w.heap.size w W) (hs : w.heap.size ≤ W.heap.size) => (ris_list v.list _ W ((HV.out.list.below hW).more hs) HB.out.list))
  obtain ⟨n, hn⟩ : ∃ n, n = v.list.length := ⟨_, rfl⟩
  have hnb := hB.list
  rw [← hn] at HK hnb ⊢
  have HN := Lib.hid hn
  clear hv hn hB
  by_cases h0 : 0 < n
  · have h0' : (0 : Int) < (n : Int) := by omega
    by_cases h1 : ¬ Ris MayP AnyP v.list
    · have H1 := Lib.hid h1
      clear h1
      go_enter Try.func39, Try.ntmps39
      go_wp2_with fail
      refine ((HK.out _ ((Below.refl _ w).alloc (Nat.le_refl _) _) (by simp)).no H1.out).mono ?_
      rintro e w1 ⟨rfl, hb1⟩
      have HB1 : Hid (Below w.heap.size w w1) := Lib.hid (((Below.refl w.heap.size w).alloc (Nat.le_refl _) _).trans (hb1.mono (by simp)))
      clear hb1
      go_wp2_with fail
      go_ret
      exact ⟨ret_no (fun h => H1.out h.2), HB1.out⟩
    · have H1 := Lib.hid (Classical.not_not.1 h1)
      clear h1
      go_enter Try.func39, Try.ntmps39
      go_wp2_with fail
      refine ((HK.out _ ((Below.refl _ w).alloc (Nat.le_refl _) _) (by simp)).yes H1.out).mono ?_
      rintro e w1 ⟨rfl, hb1⟩
      have HB1 : Hid (Below w.heap.size w w1) := Lib.hid (((Below.refl w.heap.size w).alloc (Nat.le_refl _) _).trans (hb1.mono (by simp)))
      clear hb1
      go_wp2_with fail
      go_ret
      exact ⟨ret_yes ⟨h0, H1.out⟩, HB1.out⟩
  · have h0' : ¬ (0 : Int) < (n : Int) := by omega
    go_enter Try.func39, Try.ntmps39
    go_wp2_with fail
    go_ret
    exact ⟨ret_no (fun h => by first | exact h.elim | exact h0 h.1), (Below.refl _ _).alloc (Nat.le_refl _) _⟩
set_option maxHeartbeats 1000000 in
theorem hash_kind (v : Va) (c : Cl) (w : World) (hv : ValAt w w.heap.size c v) (hB : VaB v) : Asks 46 #[vV v c] w (0 < v.hash.length ∧ Ris PairP (fun p q => LtS p.1 q.1) v.hash) := by
  have HV := Lib.hid hv
  have HB := Lib.hid hB
  obtain ⟨lv, hv', sv, zv, ev⟩ := c
  obtain ⟨A, cp, e, _⟩ := hv.hash
  obtain rfl : hv' = .slice A v.hash.length cp := e
  unfold Asks
  have HK := Lib.hid (fun (W : World) (hW : Below w.heap.size w W) (hs : w.heap.size ≤ W.heap.size) => (ris_hash v.hash _ W ((HV.out.hash.below hW).more hs) HB.out.hash))
  obtain ⟨n, hn⟩ : ∃ n, n = v.hash.length := ⟨_, rfl⟩
  have hnb := hB.hash
  rw [← hn] at HK hnb ⊢
  have HN := Lib.hid hn
  clear hv hn hB
  by_cases h0 : 0 < n
  · have h0' : (0 : Int) < (n : Int) := by omega
    by_cases h1 : ¬ Ris PairP (fun p q => LtS p.1 q.1) v.hash
    · have H1 := Lib.hid h1
      clear h1
      go_enter Try.func46, Try.ntmps46
      go_wp2_with fail
      refine ((HK.out _ ((Below.refl _ w).alloc (Nat.le_refl _) _) (by simp)).no H1.out).mono ?_
      rintro e w1 ⟨rfl, hb1⟩
      have HB1 : Hid (Below w.heap.size w w1) := Lib.hid (((Below.refl w.heap.size w).alloc (Nat.le_refl _) _).trans (hb1.mono (by simp)))
      clear hb1
      go_wp2_with fail
      go_ret
      exact ⟨ret_no (fun h => H1.out h.2), HB1.out⟩
    · have H1 := Lib.hid (Classical.not_not.1 h1)
      clear h1
      go_enter Try.func46, Try.ntmps46
      go_wp2_with fail
      refine ((HK.out _ ((Below.refl _ w).alloc (Nat.le_refl _) _) (by simp)).yes H1.out).mono ?_
      rintro e w1 ⟨rfl, hb1⟩
      have HB1 : Hid (Below w.heap.size w w1) := Lib.hid (((Below.refl w.heap.size w).alloc (Nat.le_refl _) _).trans (hb1.mono (by simp)))
      clear hb1
      go_wp2_with fail
      go_ret
      exact ⟨ret_yes ⟨h0, H1.out⟩, HB1.out⟩
  · have h0' : ¬ (0 : Int) < (n : Int) := by omega
    go_enter Try.func46, Try.ntmps46
    go_wp2_with fail
    go_ret
    exact ⟨ret_no (fun h => by first | exact h.elim | exact h0 h.1), (Below.refl _ _).alloc (Nat.le_refl _) _⟩
set_option maxHeartbeats 1000000 in
theorem set_kind (v : Va) (c : Cl) (w : World) (hv : ValAt w w.heap.size c v) (hB : VaB v) : Asks 56 #[vV v c] w (0 < v.set.length ∧ Ris MayP LtS v.set) := by
  have HV := Lib.hid hv
  have HB := Lib.hid hB
  obtain ⟨lv, hv', sv, zv, ev⟩ := c
  obtain ⟨A, cp, e, _⟩ := hv.set
  obtain rfl : sv = .slice A v.set.length cp := e
  unfold Asks
  have HK := Lib.hid (fun (W : World) (hW : Below w.heap.size w W) (hs : w.heap.size ≤ W.heap.size) => (ris_set v.set _ W ((HV.out.set.below hW).more hs) HB.out.set))
  obtain ⟨n, hn⟩ : ∃ n, n = v.set.length := ⟨_, rfl⟩
  have hnb := hB.set
  rw [← hn] at HK hnb ⊢
  have HN := Lib.hid hn
  clear hv hn hB
  by_cases h0 : 0 < n
  · have h0' : (0 : Int) < (n : Int) := by omega
    by_cases h1 : ¬ Ris MayP LtS v.set
    · have H1 := Lib.hid h1
      clear h1
      go_enter Try.func56, Try.ntmps56
      go_wp2_with fail
      refine ((HK.out _ ((Below.refl _ w).alloc (Nat.le_refl _) _) (by simp)).no H1.out).mono ?_
      rintro e w1 ⟨rfl, hb1⟩
      have HB1 : Hid (Below w.heap.size w w1) := Lib.hid (((Below.refl w.heap.size w).alloc (Nat.le_refl _) _).trans (hb1.mono (by simp)))
      clear hb1
      go_wp2_with fail
      go_ret
      exact ⟨ret_no (fun h => H1.out h.2), HB1.out⟩
    · have H1 := Lib.hid (Classical.not_not.1 h1)
      clear h1
      go_enter Try.func56, Try.ntmps56
      go_wp2_with fail
      refine ((HK.out _ ((Below.refl _ w).alloc (Nat.le_refl _) _) (by simp)).yes H1.out).mono ?_
      rintro e w1 ⟨rfl, hb1⟩
      have HB1 : Hid (Below w.heap.size w w1) := Lib.hid (((Below.refl w.heap.size w).alloc (Nat.le_refl _) _).trans (hb1.mono (by simp)))
      clear hb1
      go_wp2_with fail
      go_ret
      exact ⟨ret_yes ⟨h0, H1.out⟩, HB1.out⟩
  · have h0' : ¬ (0 : Int) < (n : Int) := by omega
    go_enter Try.func56, Try.ntmps56
    go_wp2_with fail
    go_ret
    exact ⟨ret_no (fun h => by first | exact h.elim | exact h0 h.1), (Below.refl _ _).alloc (Nat.le_refl _) _⟩
set_option maxHeartbeats 1000000 in
theorem stream_kind (v : Va) (c : Cl) (w : World) (hv : ValAt w w.heap.size c v) (hB : VaB v) : Asks 67 #[vV v c] w (Ris (EntP (v.ms, v.seq)) ElessP v.stream) := by
  have HV := Lib.hid hv
  have HB := Lib.hid hB
  obtain ⟨lv, hv', sv, zv, ev⟩ := c
  obtain ⟨A, cp, e, _⟩ := hv.stream
  obtain rfl : ev = .slice A v.stream.length cp := e
  unfold Asks
  have HK := Lib.hid (fun (W : World) (hW : Below w.heap.size w W) (hs : w.heap.size ≤ W.heap.size) (b : Nat) (hb : b < W.heap.size) h7 h8 => (ris_stream v.stream _ b v.ms v.seq W ((HV.out.stream.below hW).more hs) HB.out.pairs hb h7 h8 HB.out.stream))
  obtain ⟨n, hn⟩ : ∃ n, n = v.stream.length := ⟨_, rfl⟩
  rw [← hn] at HK ⊢
  clear hv hn hB
  have hbo := heap_alloc_new w (.cells #[.int .u8 (v.kind : Int), .string v.text, lv, hv', sv, zv, .slice A n cp, .int .u64 (v.ms : Int), .int .u64 (v.seq : Int)] 31)
  have HC := Lib.hid (HK.out _ ((Below.refl _ w).alloc (Nat.le_refl _) _) (by simp) w.heap.size (by simp) (by rw [Lib.cell_of_heap hbo]; rfl) (by rw [Lib.cell_of_heap hbo]; rfl))
  clear hbo
  go_enter Try.func67, Try.ntmps67
  go_wp2_with fail
  refine HC.out.mono ?_
  rintro e w1 ⟨rfl, hb1⟩
  have HB1 : Hid (Below w.heap.size w w1) := Lib.hid (((Below.refl w.heap.size w).alloc (Nat.le_refl _) _).trans (hb1.mono (by simp)))
  clear hb1
  go_wp2_with fail
  go_ret
  exact ⟨rfl, HB1.out⟩
set_option maxHeartbeats 1000000 in
theorem zset_kind (v : Va) (c : Cl) (w : World) (hv : ValAt w w.heap.size c v) (hB : VaB v) : Asks 60 #[vV v c] w (0 < v.zset.length ∧ ZsP v.zset) := by
  have HV := Lib.hid hv
  have HB := Lib.hid hB
  obtain ⟨lv, hv', sv, zv, ev⟩ := c
  obtain ⟨A, cp, e, _⟩ := hv.zset
  obtain rfl : zv = .slice A v.zset.length cp := e
  unfold Asks
  have hmm := @run_makeMap Try.prog
  obtain ⟨n, hn⟩ : ∃ n, n = v.zset.length := ⟨_, rfl⟩
  have hnb := hB.zset
  have HZ : Hid (∀ (W : World) (b M : Nat), Below w.heap.size w W → w.heap.size ≤ M → W.heap[b]? = some (.cells #[.map (some M)] 120 (0, 0)) → SeenAt W M [] → Calls Try.prog 86 #[.slice A v.zset.length cp, .func (.func 87) #[] #[.pointer (some ⟨b, 0, none⟩)], .func (.func 90) #[] #[]] W fun e w' => e = .returned (.bool (pb (ZsP v.zset))) ∧ W.grownBy w' (some M)) :=
    Lib.hid (fun W b M hW hM hb hs => ris_zset v.zset _ w.heap.size b M W (HV.out.zset.below hW) hM HB.out.zset HB.out.bits hb hs)
  rw [← hn] at hnb HZ ⊢
  have HN := Lib.hid hn
  clear hv hn hB
  by_cases h0 : 0 < n
  · have h0' : (0 : Int) < (n : Int) := by omega
    go_enter Try.func60, Try.ntmps60
    go_wp2_with fail
    obtain ⟨W, hW⟩ : ∃ W, W = ((w.alloc (.cells #[.int .u8 (v.kind : Int), .string v.text, lv, hv', sv, .slice A n cp, ev, .int .u64 (v.ms : Int), .int .u64 (v.seq : Int)] 31)).alloc (.map #[] 0)).alloc (.cells #[.map (some (w.heap.size + 1))] 120) := ⟨_, rfl⟩
    rw [← hW]
    have hbW : Below w.heap.size w W := by rw [hW]; exact (((Below.refl w.heap.size w).alloc (Nat.le_refl _) _).alloc (by simp) _).alloc (by simp; omega) _
    have h1 : W.heap[w.heap.size + 2]? = some (.cells #[.map (some (w.heap.size + 1))] 120 (0, 0)) := by
      rw [hW]
      have := heap_alloc_new ((w.alloc (.cells #[.int .u8 (v.kind : Int), .string v.text, lv, hv', sv, .slice A n cp, ev, .int .u64 (v.ms : Int), .int .u64 (v.seq : Int)] 31)).alloc (.map #[] 0)) (.cells #[.map (some (w.heap.size + 1))] 120)
      have e : ((w.alloc (.cells #[.int .u8 (v.kind : Int), .string v.text, lv, hv', sv, .slice A n cp, ev, .int .u64 (v.ms : Int), .int .u64 (v.seq : Int)] 31)).alloc (.map #[] 0)).heap.size = w.heap.size + 2 := by simp
      rw [e] at this
      exact this
    have h2 : SeenAt W (w.heap.size + 1) [] := by
      refine ⟨#[], 0, ?_, rfl, MapKept.stamped_empty 0⟩
      rw [hW, Lib.alloc_old _ _ _ (by simp)]
      have := heap_alloc_new (w.alloc (.cells #[.int .u8 (v.kind : Int), .string v.text, lv, hv', sv, .slice A n cp, ev, .int .u64 (v.ms : Int), .int .u64 (v.seq : Int)] 31)) (.map #[] 0)
      have e : (w.alloc (.cells #[.int .u8 (v.kind : Int), .string v.text, lv, hv', sv, .slice A n cp, ev, .int .u64 (v.ms : Int), .int .u64 (v.seq : Int)] 31)).heap.size = w.heap.size + 1 := by simp
      rw [e] at this
      exact this
    refine (HZ.out W (w.heap.size + 2) (w.heap.size + 1) hbW (by omega) h1 h2).mono ?_
    rintro e w1 ⟨rfl, hg⟩
    have HB1 : Hid (Below w.heap.size w w1) := Lib.hid (hbW.trans (below_grown hg (by have := hbW.size; omega) (by omega)))
    clear hW hbW h1 h2 hg
    cases hz : pb (ZsP v.zset) with
    | true =>
      go_wp2_with fail
      go_ret
      exact ⟨ret_yes ⟨h0, of_pb hz⟩, HB1.out⟩
    | false =>
      go_wp2_with fail
      go_ret
      exact ⟨ret_no (fun h => not_pb hz h.2), HB1.out⟩
  · have h0' : ¬ (0 : Int) < (n : Int) := by omega
    go_enter Try.func60, Try.ntmps60
    go_wp2_with fail
    go_ret
    exact ⟨ret_no (fun h => by first | exact h.elim | exact h0 h.1), (((Below.refl _ w).alloc (Nat.le_refl _) _).alloc (by simp) _).alloc (by simp; omega) _⟩
end Go.Proofs.Ytpnmhldaaaemeaa.Snp
