import Derived.Test.YtpnmhldaaaemeaaGreatMa13
/- Chapter 24: the document's bytes: values. Printed by gen_refv24.py. -/
namespace Go.Proofs.YtpnmhldaaaemeaaGreat.Snp
open Go.RowKit Go.Proofs.YtpnmhldaaaemeaaGreat.Pin
abbrev vRow (va : Va) (c : Cl) : Obj := .cells #[.int .u8 (va.kind : Int), .string va.text, c.lv, c.hv, c.sv, c.zv, c.ev, .int .u64 (va.ms : Int), .int .u64 (va.seq : Int)] 42
set_option maxHeartbeats 2000000 in
set_option maxRecDepth 100000 in
theorem ref_value_1 (va : Va) (c : Cl) (v : Value) (l : List UInt8) (B : Nat) (w : World) (h : Row w B v l) (hB : B ≤ w.heap.size) (hv : ValAt w B c va) (hV : VaB va) (hI : IdsB va) (hk : va.kind = 1) (hb : l.length + (1 + (vaB va).length) ≤ 140737488355328) :
    Adds 74 #[v, vV va c] w B v l (leB va.kind 1 ++ vaB va) := by
  obtain ⟨bx, hbx⟩ : ∃ bx, bx = w.heap.size := ⟨_, rfl⟩
  obtain ⟨W, hW⟩ : ∃ W, W = w.alloc (vRow va c) := ⟨_, rfl⟩
  have HX : Hid (W.heap[bx]? = some (vRow va c)) := Lib.hid (by rw [hW, hbx]; exact heap_alloc_new w _)
  have HRW : Hid (Row W B v l) := Lib.hid (by rw [hW]; exact h.alloc _)
  have HBW : Hid (B ≤ W.heap.size) := Lib.hid (by rw [hW]; exact Nat.le_trans hB (by simp))
  have HBA : Hid (∀ o : Obj, B ≤ ((w.alloc (vRow va c)).alloc o).heap.size) := Lib.hid (fun o => by rw [← hW]; exact Nat.le_trans HBW.out (by simp))
  have HRA : Hid (∀ o : Obj, Row ((w.alloc (vRow va c)).alloc o) B v l) := Lib.hid (fun o => (h.alloc _).alloc o)
  have HAW : Hid (Ap w v W v) := Lib.hid (by rw [hW]; exact Ap.alloc w v _)
  have HNE : Hid (v.ownBlock ≠ some bx) := Lib.hid (fun e => by have := (h.lt _ e).2; omega)
  have HH := Lib.hid h
  have HV := Lib.hid hv
  have HVB := Lib.hid hV
  have HIB := Lib.hid hI
  have HK := Lib.hid hk
  have HLE := Lib.hid hb
  have HWE := Lib.hid hW
  have HBE := Lib.hid hbx
  have hc0 : (w.alloc (vRow va c)).cell? ⟨w.heap.size, 0, none⟩ = some (.int .u8 1) := by rw [← hW, ← hbx, Lib.cell_of_heap HX.out]; simp [hk]
  unfold Adds
  clear h hb hB hW hbx hv hV hI hk
  go_enter Tryz.func74, Tryz.ntmps74
  go_wp2_with (at_builtin; (refine wpList_row_all rfl _ _ rfl rfl (HRA.out _) (HBA.out _) ⟨w.heap.size + 1, 0, none⟩ 1 1 [UInt8.ofNat 1] rfl rfl ?c1 ?c2 ?_))
  case c1 =>
    have h1 := one_new (w := w.alloc (vRow va c)) (u := .int .u8 1) (m := 1) (by simp)
    rw [show (w.alloc (vRow va c)).heap.size = w.heap.size + 1 by simp] at h1
    exact h1
  case c2 => have := HLE.out; simp only [List.length_singleton]; omega
  intro v1 w1 hr1 ha1
  have HR1 : Hid (Row w1 B v1 (l ++ leB va.kind 1)) := Lib.hid (by rw [HK.out]; exact hr1)
  have HA1 : Hid (Ap W v w1 v1) := Lib.hid (by rw [HWE.out]; exact (Ap.alloc _ v _).trans ha1)
  have HX1 : Hid (w1.heap[bx]? = some (vRow va c)) := Lib.hid (HA1.out.keep HX.out HNE.out)
  have HN1 : Hid (v1.ownBlock ≠ some bx) := Lib.hid (HA1.out.away (Array.getElem?_eq_some_iff.1 HX.out).1 HNE.out)
  have HAA1 : Hid (Ap w v w1 v1) := Lib.hid (HAW.out.trans HA1.out)
  have HB1 : Hid (B ≤ w1.heap.size) := Lib.hid (Nat.le_trans HBW.out HA1.out.size)
  have HVV : Hid (ValAt w1 B c va) := Lib.hid (HV.out.below (HH.out.below HAA1.out))
  have HL1 : Hid ((l ++ leB va.kind 1).length + (vaB va).length ≤ 140737488355328) := Lib.hid (by have := HLE.out; rw [List.length_append, leB_len]; omega)
  have hd0 : w1.cell? ⟨bx, 0, none⟩ = some (.int .u8 1) := by rw [Lib.cell_of_heap HX1.out]; simp [HK.out]
  clear hc0 hr1 ha1
  rw [← HBE.out]
  have hd1 : w1.cell? ⟨bx, 1, none⟩ = some (.string va.text) := by rw [Lib.cell_of_heap HX1.out]; rfl
  have HE : Hid (vaB va = textB va.text) := Lib.hid (by unfold vaB; rw [HK.out]; rfl)
  have HC := Lib.hid (ref_text va.text v1 _ B w1 HR1.out HB1.out (by have := HL1.out; rw [HE.out] at this; exact this))
  go_wp2_with fail
  refine HC.out.mono ?_
  rintro e w2 ⟨v2, rfl, hr2, ha2⟩
  have HR2 := Lib.hid hr2
  have HA2 := Lib.hid (HAA1.out.trans ha2)
  clear hr2 ha2
  go_wp2_with fail
  go_ret
  exact ⟨_, rfl, by rw [HE.out, ← List.append_assoc]; exact HR2.out, HA2.out⟩

set_option maxHeartbeats 2000000 in
set_option maxRecDepth 100000 in
theorem ref_value_2 (va : Va) (c : Cl) (v : Value) (l : List UInt8) (B : Nat) (w : World) (h : Row w B v l) (hB : B ≤ w.heap.size) (hv : ValAt w B c va) (hV : VaB va) (hI : IdsB va) (hk : va.kind = 2) (hb : l.length + (1 + (vaB va).length) ≤ 140737488355328) :
    Adds 74 #[v, vV va c] w B v l (leB va.kind 1 ++ vaB va) := by
  obtain ⟨bx, hbx⟩ : ∃ bx, bx = w.heap.size := ⟨_, rfl⟩
  obtain ⟨W, hW⟩ : ∃ W, W = w.alloc (vRow va c) := ⟨_, rfl⟩
  have HX : Hid (W.heap[bx]? = some (vRow va c)) := Lib.hid (by rw [hW, hbx]; exact heap_alloc_new w _)
  have HRW : Hid (Row W B v l) := Lib.hid (by rw [hW]; exact h.alloc _)
  have HBW : Hid (B ≤ W.heap.size) := Lib.hid (by rw [hW]; exact Nat.le_trans hB (by simp))
  have HBA : Hid (∀ o : Obj, B ≤ ((w.alloc (vRow va c)).alloc o).heap.size) := Lib.hid (fun o => by rw [← hW]; exact Nat.le_trans HBW.out (by simp))
  have HRA : Hid (∀ o : Obj, Row ((w.alloc (vRow va c)).alloc o) B v l) := Lib.hid (fun o => (h.alloc _).alloc o)
  have HAW : Hid (Ap w v W v) := Lib.hid (by rw [hW]; exact Ap.alloc w v _)
  have HNE : Hid (v.ownBlock ≠ some bx) := Lib.hid (fun e => by have := (h.lt _ e).2; omega)
  have HH := Lib.hid h
  have HV := Lib.hid hv
  have HVB := Lib.hid hV
  have HIB := Lib.hid hI
  have HK := Lib.hid hk
  have HLE := Lib.hid hb
  have HWE := Lib.hid hW
  have HBE := Lib.hid hbx
  have hc0 : (w.alloc (vRow va c)).cell? ⟨w.heap.size, 0, none⟩ = some (.int .u8 2) := by rw [← hW, ← hbx, Lib.cell_of_heap HX.out]; simp [hk]
  unfold Adds
  clear h hb hB hW hbx hv hV hI hk
  go_enter Tryz.func74, Tryz.ntmps74
  go_wp2_with (at_builtin; (refine wpList_row_all rfl _ _ rfl rfl (HRA.out _) (HBA.out _) ⟨w.heap.size + 1, 0, none⟩ 1 1 [UInt8.ofNat 2] rfl rfl ?c1 ?c2 ?_))
  case c1 =>
    have h1 := one_new (w := w.alloc (vRow va c)) (u := .int .u8 2) (m := 2) (by simp)
    rw [show (w.alloc (vRow va c)).heap.size = w.heap.size + 1 by simp] at h1
    exact h1
  case c2 => have := HLE.out; simp only [List.length_singleton]; omega
  intro v1 w1 hr1 ha1
  have HR1 : Hid (Row w1 B v1 (l ++ leB va.kind 1)) := Lib.hid (by rw [HK.out]; exact hr1)
  have HA1 : Hid (Ap W v w1 v1) := Lib.hid (by rw [HWE.out]; exact (Ap.alloc _ v _).trans ha1)
  have HX1 : Hid (w1.heap[bx]? = some (vRow va c)) := Lib.hid (HA1.out.keep HX.out HNE.out)
  have HN1 : Hid (v1.ownBlock ≠ some bx) := Lib.hid (HA1.out.away (Array.getElem?_eq_some_iff.1 HX.out).1 HNE.out)
  have HAA1 : Hid (Ap w v w1 v1) := Lib.hid (HAW.out.trans HA1.out)
  have HB1 : Hid (B ≤ w1.heap.size) := Lib.hid (Nat.le_trans HBW.out HA1.out.size)
  have HVV : Hid (ValAt w1 B c va) := Lib.hid (HV.out.below (HH.out.below HAA1.out))
  have HL1 : Hid ((l ++ leB va.kind 1).length + (vaB va).length ≤ 140737488355328) := Lib.hid (by have := HLE.out; rw [List.length_append, leB_len]; omega)
  have hd0 : w1.cell? ⟨bx, 0, none⟩ = some (.int .u8 2) := by rw [Lib.cell_of_heap HX1.out]; simp [HK.out]
  clear hc0 hr1 ha1
  rw [← HBE.out]
  have hd1 : w1.cell? ⟨bx, 2, none⟩ = some (c.lv) := by rw [Lib.cell_of_heap HX1.out]; rfl
  have HE : Hid (vaB va = listB textB va.list) := Lib.hid (by unfold vaB; rw [HK.out]; rfl)
  have HC := Lib.hid (ref_list va.list c.lv v1 _ B w1 HR1.out HB1.out HVV.out.list HVB.out.list (by have := HL1.out; rw [HE.out] at this; exact this))
  go_wp2_with fail
  refine HC.out.mono ?_
  rintro e w2 ⟨v2, rfl, hr2, ha2⟩
  have HR2 := Lib.hid hr2
  have HA2 := Lib.hid (HAA1.out.trans ha2)
  clear hr2 ha2
  go_wp2_with fail
  go_ret
  exact ⟨_, rfl, by rw [HE.out, ← List.append_assoc]; exact HR2.out, HA2.out⟩

set_option maxHeartbeats 2000000 in
set_option maxRecDepth 100000 in
theorem ref_value_3 (va : Va) (c : Cl) (v : Value) (l : List UInt8) (B : Nat) (w : World) (h : Row w B v l) (hB : B ≤ w.heap.size) (hv : ValAt w B c va) (hV : VaB va) (hI : IdsB va) (hk : va.kind = 3) (hb : l.length + (1 + (vaB va).length) ≤ 140737488355328) :
    Adds 74 #[v, vV va c] w B v l (leB va.kind 1 ++ vaB va) := by
  obtain ⟨bx, hbx⟩ : ∃ bx, bx = w.heap.size := ⟨_, rfl⟩
  obtain ⟨W, hW⟩ : ∃ W, W = w.alloc (vRow va c) := ⟨_, rfl⟩
  have HX : Hid (W.heap[bx]? = some (vRow va c)) := Lib.hid (by rw [hW, hbx]; exact heap_alloc_new w _)
  have HRW : Hid (Row W B v l) := Lib.hid (by rw [hW]; exact h.alloc _)
  have HBW : Hid (B ≤ W.heap.size) := Lib.hid (by rw [hW]; exact Nat.le_trans hB (by simp))
  have HBA : Hid (∀ o : Obj, B ≤ ((w.alloc (vRow va c)).alloc o).heap.size) := Lib.hid (fun o => by rw [← hW]; exact Nat.le_trans HBW.out (by simp))
  have HRA : Hid (∀ o : Obj, Row ((w.alloc (vRow va c)).alloc o) B v l) := Lib.hid (fun o => (h.alloc _).alloc o)
  have HAW : Hid (Ap w v W v) := Lib.hid (by rw [hW]; exact Ap.alloc w v _)
  have HNE : Hid (v.ownBlock ≠ some bx) := Lib.hid (fun e => by have := (h.lt _ e).2; omega)
  have HH := Lib.hid h
  have HV := Lib.hid hv
  have HVB := Lib.hid hV
  have HIB := Lib.hid hI
  have HK := Lib.hid hk
  have HLE := Lib.hid hb
  have HWE := Lib.hid hW
  have HBE := Lib.hid hbx
  have hc0 : (w.alloc (vRow va c)).cell? ⟨w.heap.size, 0, none⟩ = some (.int .u8 3) := by rw [← hW, ← hbx, Lib.cell_of_heap HX.out]; simp [hk]
  unfold Adds
  clear h hb hB hW hbx hv hV hI hk
  go_enter Tryz.func74, Tryz.ntmps74
  go_wp2_with (at_builtin; (refine wpList_row_all rfl _ _ rfl rfl (HRA.out _) (HBA.out _) ⟨w.heap.size + 1, 0, none⟩ 1 1 [UInt8.ofNat 3] rfl rfl ?c1 ?c2 ?_))
  case c1 =>
    have h1 := one_new (w := w.alloc (vRow va c)) (u := .int .u8 3) (m := 3) (by simp)
    rw [show (w.alloc (vRow va c)).heap.size = w.heap.size + 1 by simp] at h1
    exact h1
  case c2 => have := HLE.out; simp only [List.length_singleton]; omega
  intro v1 w1 hr1 ha1
  have HR1 : Hid (Row w1 B v1 (l ++ leB va.kind 1)) := Lib.hid (by rw [HK.out]; exact hr1)
  have HA1 : Hid (Ap W v w1 v1) := Lib.hid (by rw [HWE.out]; exact (Ap.alloc _ v _).trans ha1)
  have HX1 : Hid (w1.heap[bx]? = some (vRow va c)) := Lib.hid (HA1.out.keep HX.out HNE.out)
  have HN1 : Hid (v1.ownBlock ≠ some bx) := Lib.hid (HA1.out.away (Array.getElem?_eq_some_iff.1 HX.out).1 HNE.out)
  have HAA1 : Hid (Ap w v w1 v1) := Lib.hid (HAW.out.trans HA1.out)
  have HB1 : Hid (B ≤ w1.heap.size) := Lib.hid (Nat.le_trans HBW.out HA1.out.size)
  have HVV : Hid (ValAt w1 B c va) := Lib.hid (HV.out.below (HH.out.below HAA1.out))
  have HL1 : Hid ((l ++ leB va.kind 1).length + (vaB va).length ≤ 140737488355328) := Lib.hid (by have := HLE.out; rw [List.length_append, leB_len]; omega)
  have hd0 : w1.cell? ⟨bx, 0, none⟩ = some (.int .u8 3) := by rw [Lib.cell_of_heap HX1.out]; simp [HK.out]
  clear hc0 hr1 ha1
  rw [← HBE.out]
  have hd1 : w1.cell? ⟨bx, 3, none⟩ = some (c.hv) := by rw [Lib.cell_of_heap HX1.out]; rfl
  have HE : Hid (vaB va = listB pairB va.hash) := Lib.hid (by unfold vaB; rw [HK.out]; rfl)
  have HC := Lib.hid (ref_couples va.hash c.hv v1 _ B w1 HR1.out HB1.out HVV.out.hash HVB.out.hash (by have := HL1.out; rw [HE.out] at this; exact this))
  go_wp2_with fail
  refine HC.out.mono ?_
  rintro e w2 ⟨v2, rfl, hr2, ha2⟩
  have HR2 := Lib.hid hr2
  have HA2 := Lib.hid (HAA1.out.trans ha2)
  clear hr2 ha2
  go_wp2_with fail
  go_ret
  exact ⟨_, rfl, by rw [HE.out, ← List.append_assoc]; exact HR2.out, HA2.out⟩

set_option maxHeartbeats 2000000 in
set_option maxRecDepth 100000 in
theorem ref_value_4 (va : Va) (c : Cl) (v : Value) (l : List UInt8) (B : Nat) (w : World) (h : Row w B v l) (hB : B ≤ w.heap.size) (hv : ValAt w B c va) (hV : VaB va) (hI : IdsB va) (hk : va.kind = 4) (hb : l.length + (1 + (vaB va).length) ≤ 140737488355328) :
    Adds 74 #[v, vV va c] w B v l (leB va.kind 1 ++ vaB va) := by
  obtain ⟨bx, hbx⟩ : ∃ bx, bx = w.heap.size := ⟨_, rfl⟩
  obtain ⟨W, hW⟩ : ∃ W, W = w.alloc (vRow va c) := ⟨_, rfl⟩
  have HX : Hid (W.heap[bx]? = some (vRow va c)) := Lib.hid (by rw [hW, hbx]; exact heap_alloc_new w _)
  have HRW : Hid (Row W B v l) := Lib.hid (by rw [hW]; exact h.alloc _)
  have HBW : Hid (B ≤ W.heap.size) := Lib.hid (by rw [hW]; exact Nat.le_trans hB (by simp))
  have HBA : Hid (∀ o : Obj, B ≤ ((w.alloc (vRow va c)).alloc o).heap.size) := Lib.hid (fun o => by rw [← hW]; exact Nat.le_trans HBW.out (by simp))
  have HRA : Hid (∀ o : Obj, Row ((w.alloc (vRow va c)).alloc o) B v l) := Lib.hid (fun o => (h.alloc _).alloc o)
  have HAW : Hid (Ap w v W v) := Lib.hid (by rw [hW]; exact Ap.alloc w v _)
  have HNE : Hid (v.ownBlock ≠ some bx) := Lib.hid (fun e => by have := (h.lt _ e).2; omega)
  have HH := Lib.hid h
  have HV := Lib.hid hv
  have HVB := Lib.hid hV
  have HIB := Lib.hid hI
  have HK := Lib.hid hk
  have HLE := Lib.hid hb
  have HWE := Lib.hid hW
  have HBE := Lib.hid hbx
  have hc0 : (w.alloc (vRow va c)).cell? ⟨w.heap.size, 0, none⟩ = some (.int .u8 4) := by rw [← hW, ← hbx, Lib.cell_of_heap HX.out]; simp [hk]
  unfold Adds
  clear h hb hB hW hbx hv hV hI hk
  go_enter Tryz.func74, Tryz.ntmps74
  go_wp2_with (at_builtin; (refine wpList_row_all rfl _ _ rfl rfl (HRA.out _) (HBA.out _) ⟨w.heap.size + 1, 0, none⟩ 1 1 [UInt8.ofNat 4] rfl rfl ?c1 ?c2 ?_))
  case c1 =>
    have h1 := one_new (w := w.alloc (vRow va c)) (u := .int .u8 4) (m := 4) (by simp)
    rw [show (w.alloc (vRow va c)).heap.size = w.heap.size + 1 by simp] at h1
    exact h1
  case c2 => have := HLE.out; simp only [List.length_singleton]; omega
  intro v1 w1 hr1 ha1
  have HR1 : Hid (Row w1 B v1 (l ++ leB va.kind 1)) := Lib.hid (by rw [HK.out]; exact hr1)
  have HA1 : Hid (Ap W v w1 v1) := Lib.hid (by rw [HWE.out]; exact (Ap.alloc _ v _).trans ha1)
  have HX1 : Hid (w1.heap[bx]? = some (vRow va c)) := Lib.hid (HA1.out.keep HX.out HNE.out)
  have HN1 : Hid (v1.ownBlock ≠ some bx) := Lib.hid (HA1.out.away (Array.getElem?_eq_some_iff.1 HX.out).1 HNE.out)
  have HAA1 : Hid (Ap w v w1 v1) := Lib.hid (HAW.out.trans HA1.out)
  have HB1 : Hid (B ≤ w1.heap.size) := Lib.hid (Nat.le_trans HBW.out HA1.out.size)
  have HVV : Hid (ValAt w1 B c va) := Lib.hid (HV.out.below (HH.out.below HAA1.out))
  have HL1 : Hid ((l ++ leB va.kind 1).length + (vaB va).length ≤ 140737488355328) := Lib.hid (by have := HLE.out; rw [List.length_append, leB_len]; omega)
  have hd0 : w1.cell? ⟨bx, 0, none⟩ = some (.int .u8 4) := by rw [Lib.cell_of_heap HX1.out]; simp [HK.out]
  clear hc0 hr1 ha1
  rw [← HBE.out]
  have hd1 : w1.cell? ⟨bx, 4, none⟩ = some (c.sv) := by rw [Lib.cell_of_heap HX1.out]; rfl
  have HE : Hid (vaB va = listB textB va.set) := Lib.hid (by unfold vaB; rw [HK.out]; rfl)
  have HC := Lib.hid (ref_list va.set c.sv v1 _ B w1 HR1.out HB1.out HVV.out.set HVB.out.set (by have := HL1.out; rw [HE.out] at this; exact this))
  go_wp2_with fail
  refine HC.out.mono ?_
  rintro e w2 ⟨v2, rfl, hr2, ha2⟩
  have HR2 := Lib.hid hr2
  have HA2 := Lib.hid (HAA1.out.trans ha2)
  clear hr2 ha2
  go_wp2_with fail
  go_ret
  exact ⟨_, rfl, by rw [HE.out, ← List.append_assoc]; exact HR2.out, HA2.out⟩

set_option maxHeartbeats 2000000 in
set_option maxRecDepth 100000 in
theorem ref_value_5 (va : Va) (c : Cl) (v : Value) (l : List UInt8) (B : Nat) (w : World) (h : Row w B v l) (hB : B ≤ w.heap.size) (hv : ValAt w B c va) (hV : VaB va) (hI : IdsB va) (hk : va.kind = 5) (hb : l.length + (1 + (vaB va).length) ≤ 140737488355328) :
    Adds 74 #[v, vV va c] w B v l (leB va.kind 1 ++ vaB va) := by
  obtain ⟨bx, hbx⟩ : ∃ bx, bx = w.heap.size := ⟨_, rfl⟩
  obtain ⟨W, hW⟩ : ∃ W, W = w.alloc (vRow va c) := ⟨_, rfl⟩
  have HX : Hid (W.heap[bx]? = some (vRow va c)) := Lib.hid (by rw [hW, hbx]; exact heap_alloc_new w _)
  have HRW : Hid (Row W B v l) := Lib.hid (by rw [hW]; exact h.alloc _)
  have HBW : Hid (B ≤ W.heap.size) := Lib.hid (by rw [hW]; exact Nat.le_trans hB (by simp))
  have HBA : Hid (∀ o : Obj, B ≤ ((w.alloc (vRow va c)).alloc o).heap.size) := Lib.hid (fun o => by rw [← hW]; exact Nat.le_trans HBW.out (by simp))
  have HRA : Hid (∀ o : Obj, Row ((w.alloc (vRow va c)).alloc o) B v l) := Lib.hid (fun o => (h.alloc _).alloc o)
  have HAW : Hid (Ap w v W v) := Lib.hid (by rw [hW]; exact Ap.alloc w v _)
  have HNE : Hid (v.ownBlock ≠ some bx) := Lib.hid (fun e => by have := (h.lt _ e).2; omega)
  have HH := Lib.hid h
  have HV := Lib.hid hv
  have HVB := Lib.hid hV
  have HIB := Lib.hid hI
  have HK := Lib.hid hk
  have HLE := Lib.hid hb
  have HWE := Lib.hid hW
  have HBE := Lib.hid hbx
  have hc0 : (w.alloc (vRow va c)).cell? ⟨w.heap.size, 0, none⟩ = some (.int .u8 5) := by rw [← hW, ← hbx, Lib.cell_of_heap HX.out]; simp [hk]
  unfold Adds
  clear h hb hB hW hbx hv hV hI hk
  go_enter Tryz.func74, Tryz.ntmps74
  go_wp2_with (at_builtin; (refine wpList_row_all rfl _ _ rfl rfl (HRA.out _) (HBA.out _) ⟨w.heap.size + 1, 0, none⟩ 1 1 [UInt8.ofNat 5] rfl rfl ?c1 ?c2 ?_))
  case c1 =>
    have h1 := one_new (w := w.alloc (vRow va c)) (u := .int .u8 5) (m := 5) (by simp)
    rw [show (w.alloc (vRow va c)).heap.size = w.heap.size + 1 by simp] at h1
    exact h1
  case c2 => have := HLE.out; simp only [List.length_singleton]; omega
  intro v1 w1 hr1 ha1
  have HR1 : Hid (Row w1 B v1 (l ++ leB va.kind 1)) := Lib.hid (by rw [HK.out]; exact hr1)
  have HA1 : Hid (Ap W v w1 v1) := Lib.hid (by rw [HWE.out]; exact (Ap.alloc _ v _).trans ha1)
  have HX1 : Hid (w1.heap[bx]? = some (vRow va c)) := Lib.hid (HA1.out.keep HX.out HNE.out)
  have HN1 : Hid (v1.ownBlock ≠ some bx) := Lib.hid (HA1.out.away (Array.getElem?_eq_some_iff.1 HX.out).1 HNE.out)
  have HAA1 : Hid (Ap w v w1 v1) := Lib.hid (HAW.out.trans HA1.out)
  have HB1 : Hid (B ≤ w1.heap.size) := Lib.hid (Nat.le_trans HBW.out HA1.out.size)
  have HVV : Hid (ValAt w1 B c va) := Lib.hid (HV.out.below (HH.out.below HAA1.out))
  have HL1 : Hid ((l ++ leB va.kind 1).length + (vaB va).length ≤ 140737488355328) := Lib.hid (by have := HLE.out; rw [List.length_append, leB_len]; omega)
  have hd0 : w1.cell? ⟨bx, 0, none⟩ = some (.int .u8 5) := by rw [Lib.cell_of_heap HX1.out]; simp [HK.out]
  clear hc0 hr1 ha1
  rw [← HBE.out]
  have HE : Hid (vaB va = listB scB va.zset) := Lib.hid (by unfold vaB; rw [HK.out]; rfl)
  have hcb := call_bits
  obtain ⟨A, cp, hz, hT⟩ := HVV.out.zset
  obtain ⟨L, hL⟩ : ∃ L, L = va.zset.length := ⟨_, rfl⟩
  rw [← hL] at hz
  have HZ := Lib.hid hz
  have HL := Lib.hid hL
  have HT := Lib.hid hT
  have hll : L ≤ 140737488351232 := by rw [hL]; exact HVB.out.zset
  have hlb := HL1.out
  rw [HE.out, listB_len] at hlb
  have HLB := Lib.hid hlb
  have HN := Lib.hid (ref_low L 4 v1 _ B w1 HR1.out HB1.out (by omega) (by decide) (by omega))
  have HS := Lib.hid (flat_le (f := scB) (ls := va.zset))
  have hw : IntKind.u64.wrap (L : Int) = (L : Int) := by rw [IntKind.wrap_u64]; omega
  have HF : Hid (∀ (W' : World) (v' : Value), Ap w1 v1 W' v' → W'.cell? ⟨bx, 5, none⟩ = some (.slice A L cp)) := Lib.hid (fun W' v' h => by rw [Lib.cell_of_heap (h.keep HX1.out HN1.out), ← HZ.out]; rfl)
  have hd5 := HF.out w1 v1 (Ap.refl _ _)
  have HBL : Hid (∀ (W' : World) (v' : Value), Ap w1 v1 W' v' → Below B w1 W') := Lib.hid (fun W' v' h => HR1.out.below h)
  clear hz hL hT hlb
  go_wp2_with fail
  refine HN.out.mono ?_
  rintro e w2 ⟨v2, rfl, hr2, ha2⟩
  have HR2 := Lib.hid hr2
  have HA2 := Lib.hid ha2
  clear hr2 ha2 hd5 hd0
  go_wp2_with fail
  go_loopw [0, 5] (fun b i wr => ∃ (k : Nat), k ≤ L ∧ i = .int .i64 k ∧ Hid (Row wr B b ((l ++ leB va.kind 1) ++ (leB L 4 ++ ((va.zset.take k).map scB).flatten))) ∧ Hid (Ap w1 v1 wr b)) (fun _ i _ => L - (intOf i).toNat)
  case atStart => exact ⟨0, Nat.zero_le _, rfl, Lib.hid (by simpa using HR2.out), HA2⟩
  case round =>
    obtain ⟨k, hk, rfl, HR, HA⟩ := hrel
    have hd5 := HF.out _ _ HA.out
    by_cases hlt : (k : Int) < (L : Int)
    · have hkl : k < va.zset.length := by have := HL.out; omega
      obtain ⟨r, o, rfl, hr, hc⟩ := HT.out (by omega)
      obtain ⟨x, hx⟩ : ∃ x, x = va.zset[k] := ⟨_, rfl⟩
      have HX' := Lib.hid hx
      have hbb := HBL.out _ _ HA.out
      have HBS : Hid (B ≤ wr.heap.size) := Lib.hid (Nat.le_trans HB1.out HA.out.size)
      have hck := hc k hkl
      rw [← hx] at hck
      have hle := HS.out k hkl
      rw [← hx] at hle
      have hbk : (l ++ leB va.kind 1).length + (4 + ((va.zset.take k).map scB).flatten.length) + ((textB x.1).length + 8) ≤ 140737488355328 := by
        have := HLB.out
        simp only [scB, List.length_append, leB_len] at hle this ⊢
        omega
      have hbits : x.2 < 18446744073709551616 := by rw [hx]; exact HVB.out.bits _ (List.getElem_mem hkl)
      have hx1 : wr.cell? ⟨r, o + k * 2, none⟩ = some (.string x.1) := (hbb.cell (p := ⟨r, _, none⟩) hr).trans hck.1
      have HX2 : Hid (∀ W, Below B w1 W → W.cell? ⟨r, o + k * 2 + 1, none⟩ = some (.float .f64 x.2)) := Lib.hid (fun W hW => (hW.cell (p := ⟨r, _, none⟩) hr).trans hck.2)
      have HBK := Lib.hid hbk
      have HBI := Lib.hid hbits
      have HC := Lib.hid (ref_text x.1 _ _ B wr HR.out HBS.out (by have := hbk; simp only [List.length_append, leB_len] at this ⊢; omega))
      clear hx hc hck hle hbk hbb hbits
      go_wp2_with fail
      refine HC.out.mono ?_
      rintro e w3 ⟨v3, rfl, hr3, ha3⟩
      have HA3 := Lib.hid (HA.out.trans ha3)
      have hx2 := HX2.out w3 (HBL.out _ _ HA3.out)
      have hd6 := HF.out _ _ HA3.out
      have HD := Lib.hid (ref_low x.2 8 _ _ B w3 hr3 (by have := HBS.out; have := ha3.size; omega) HBI.out (by decide) (by have := HBK.out; simp only [List.length_append, leB_len] at this ⊢; omega))
      clear hr3 ha3 hx1 hd5
      go_wp2_with fail
      refine HD.out.mono ?_
      rintro e w4 ⟨v4, rfl, hr4, ha4⟩
      have HR4 := Lib.hid hr4
      have HA4 := Lib.hid (HA3.out.trans ha4)
      clear hr4 ha4
      go_wp2_with fail
      go_roundw
      case rel => exact ⟨k + 1, by omega, by go_num, Lib.hid (by rw [flat_succ hkl, ← HX'.out, scB]; simpa only [List.append_assoc] using HR4.out), HA4⟩
      case measure => simp [intOf]; omega
    · have hkL : k = va.zset.length := by have := HL.out; omega
      have HKL := Lib.hid hkL
      clear hkL
      go_wp2_with fail
      go_ret
      have hR := HR.out
      rw [HKL.out, List.take_length] at hR
      exact ⟨_, rfl, by rw [HE.out, listB, ← HL.out, ← List.append_assoc]; exact hR, HAA1.out.trans HA.out⟩

set_option maxHeartbeats 2000000 in
set_option maxRecDepth 100000 in
theorem ref_value_6 (va : Va) (c : Cl) (v : Value) (l : List UInt8) (B : Nat) (w : World) (h : Row w B v l) (hB : B ≤ w.heap.size) (hv : ValAt w B c va) (hV : VaB va) (hI : IdsB va) (hk : va.kind = 6) (hb : l.length + (1 + (vaB va).length) ≤ 140737488355328) :
    Adds 74 #[v, vV va c] w B v l (leB va.kind 1 ++ vaB va) := by
  obtain ⟨bx, hbx⟩ : ∃ bx, bx = w.heap.size := ⟨_, rfl⟩
  obtain ⟨W, hW⟩ : ∃ W, W = w.alloc (vRow va c) := ⟨_, rfl⟩
  have HX : Hid (W.heap[bx]? = some (vRow va c)) := Lib.hid (by rw [hW, hbx]; exact heap_alloc_new w _)
  have HRW : Hid (Row W B v l) := Lib.hid (by rw [hW]; exact h.alloc _)
  have HBW : Hid (B ≤ W.heap.size) := Lib.hid (by rw [hW]; exact Nat.le_trans hB (by simp))
  have HBA : Hid (∀ o : Obj, B ≤ ((w.alloc (vRow va c)).alloc o).heap.size) := Lib.hid (fun o => by rw [← hW]; exact Nat.le_trans HBW.out (by simp))
  have HRA : Hid (∀ o : Obj, Row ((w.alloc (vRow va c)).alloc o) B v l) := Lib.hid (fun o => (h.alloc _).alloc o)
  have HAW : Hid (Ap w v W v) := Lib.hid (by rw [hW]; exact Ap.alloc w v _)
  have HNE : Hid (v.ownBlock ≠ some bx) := Lib.hid (fun e => by have := (h.lt _ e).2; omega)
  have HH := Lib.hid h
  have HV := Lib.hid hv
  have HVB := Lib.hid hV
  have HIB := Lib.hid hI
  have HK := Lib.hid hk
  have HLE := Lib.hid hb
  have HWE := Lib.hid hW
  have HBE := Lib.hid hbx
  have hc0 : (w.alloc (vRow va c)).cell? ⟨w.heap.size, 0, none⟩ = some (.int .u8 6) := by rw [← hW, ← hbx, Lib.cell_of_heap HX.out]; simp [hk]
  unfold Adds
  clear h hb hB hW hbx hv hV hI hk
  go_enter Tryz.func74, Tryz.ntmps74
  go_wp2_with (at_builtin; (refine wpList_row_all rfl _ _ rfl rfl (HRA.out _) (HBA.out _) ⟨w.heap.size + 1, 0, none⟩ 1 1 [UInt8.ofNat 6] rfl rfl ?c1 ?c2 ?_))
  case c1 =>
    have h1 := one_new (w := w.alloc (vRow va c)) (u := .int .u8 6) (m := 6) (by simp)
    rw [show (w.alloc (vRow va c)).heap.size = w.heap.size + 1 by simp] at h1
    exact h1
  case c2 => have := HLE.out; simp only [List.length_singleton]; omega
  intro v1 w1 hr1 ha1
  have HR1 : Hid (Row w1 B v1 (l ++ leB va.kind 1)) := Lib.hid (by rw [HK.out]; exact hr1)
  have HA1 : Hid (Ap W v w1 v1) := Lib.hid (by rw [HWE.out]; exact (Ap.alloc _ v _).trans ha1)
  have HX1 : Hid (w1.heap[bx]? = some (vRow va c)) := Lib.hid (HA1.out.keep HX.out HNE.out)
  have HN1 : Hid (v1.ownBlock ≠ some bx) := Lib.hid (HA1.out.away (Array.getElem?_eq_some_iff.1 HX.out).1 HNE.out)
  have HAA1 : Hid (Ap w v w1 v1) := Lib.hid (HAW.out.trans HA1.out)
  have HB1 : Hid (B ≤ w1.heap.size) := Lib.hid (Nat.le_trans HBW.out HA1.out.size)
  have HVV : Hid (ValAt w1 B c va) := Lib.hid (HV.out.below (HH.out.below HAA1.out))
  have HL1 : Hid ((l ++ leB va.kind 1).length + (vaB va).length ≤ 140737488355328) := Lib.hid (by have := HLE.out; rw [List.length_append, leB_len]; omega)
  have hd0 : w1.cell? ⟨bx, 0, none⟩ = some (.int .u8 6) := by rw [Lib.cell_of_heap HX1.out]; simp [HK.out]
  clear hc0 hr1 ha1
  rw [← HBE.out]
  have HE : Hid (vaB va = idB (va.ms, va.seq) ++ listB enB va.stream) := Lib.hid (by unfold vaB; rw [HK.out]; rfl)
  obtain ⟨A, cp, hz, hT⟩ := HVV.out.stream
  obtain ⟨L, hL⟩ : ∃ L, L = va.stream.length := ⟨_, rfl⟩
  rw [← hL] at hz
  have HZ := Lib.hid hz
  have HL := Lib.hid hL
  have HT := Lib.hid hT
  have hll : L ≤ 140737488351232 := by rw [hL]; exact HVB.out.stream
  have hlb := HL1.out
  have hid16 : (idB (va.ms, va.seq)).length = 16 := by simp [idB, leB_len]
  rw [HE.out, List.length_append (bs := listB enB va.stream), listB_len, hid16] at hlb
  have HLB := Lib.hid hlb
  have HI1 := Lib.hid (ref_id va.ms va.seq v1 _ B w1 HR1.out HB1.out HVB.out.ids (by omega))
  have HN := Lib.hid (fun v' w' h' hB' => ref_low L 4 v' (l ++ leB va.kind 1 ++ idB (va.ms, va.seq)) B w' h' hB' (by omega) (by decide) (by rw [List.length_append (bs := idB (va.ms, va.seq)), hid16]; omega))
  have HS := Lib.hid (flat_le (f := enB) (ls := va.stream))
  have hw : IntKind.u64.wrap (L : Int) = (L : Int) := by rw [IntKind.wrap_u64]; omega
  have HF : Hid (∀ (W' : World) (v' : Value), Ap w1 v1 W' v' → W'.cell? ⟨bx, 6, none⟩ = some (.slice A L cp)) := Lib.hid (fun W' v' h => by rw [Lib.cell_of_heap (h.keep HX1.out HN1.out), ← HZ.out]; rfl)
  have HBL : Hid (∀ (W' : World) (v' : Value), Ap w1 v1 W' v' → Below B w1 W') := Lib.hid (fun W' v' h => HR1.out.below h)
  have hd7 : w1.cell? ⟨bx, 7, none⟩ = some (.int .u64 (va.ms : Int)) := by rw [Lib.cell_of_heap HX1.out]; rfl
  have hd8 : w1.cell? ⟨bx, 8, none⟩ = some (.int .u64 (va.seq : Int)) := by rw [Lib.cell_of_heap HX1.out]; rfl
  clear hz hL hT hlb
  go_wp2_with fail
  refine HI1.out.mono ?_
  rintro e wi ⟨vi, rfl, hri, hai⟩
  have hd5 := HF.out wi vi hai
  have HNN := Lib.hid (HN.out vi wi hri (Nat.le_trans HB1.out hai.size))
  have HAI := Lib.hid hai
  clear hri hai hd7 hd8 hd0
  go_wp2_with fail
  refine HNN.out.mono ?_
  rintro e w2 ⟨v2, rfl, hr2, ha2⟩
  have HR2 := Lib.hid hr2
  have HA2 := Lib.hid (HAI.out.trans ha2)
  clear hr2 ha2 hd5
  go_wp2_with fail
  go_loopw [0, 6] (fun b i wr => ∃ (k : Nat), k ≤ L ∧ i = .int .i64 k ∧ Hid (Row wr B b ((l ++ leB va.kind 1 ++ idB (va.ms, va.seq)) ++ (leB L 4 ++ ((va.stream.take k).map enB).flatten))) ∧ Hid (Ap w1 v1 wr b)) (fun _ i _ => L - (intOf i).toNat)
  case atStart => exact ⟨0, Nat.zero_le _, rfl, Lib.hid (by simpa using HR2.out), HA2⟩
  case round =>
    obtain ⟨k, hk, rfl, HR, HA⟩ := hrel
    have hd5 := HF.out _ _ HA.out
    by_cases hlt : (k : Int) < (L : Int)
    · have hkl : k < va.stream.length := by have := HL.out; omega
      obtain ⟨r, o, rfl, hr, hc⟩ := HT.out (by omega)
      obtain ⟨x, hx⟩ : ∃ x, x = va.stream[k] := ⟨_, rfl⟩
      have HX' := Lib.hid hx
      have hbb := HBL.out _ _ HA.out
      have HBS : Hid (B ≤ wr.heap.size) := Lib.hid (Nat.le_trans HB1.out HA.out.size)
      have hck := hc k hkl
      rw [← hx] at hck
      obtain ⟨hk1, hk2, pv, hk3, hk4⟩ := hck
      have hle := HS.out k hkl
      rw [← hx] at hle
      have hbk : (l ++ leB va.kind 1).length + 16 + (4 + ((va.stream.take k).map enB).flatten.length) + (16 + (listB pairB x.pairs).length) ≤ 140737488355328 := by
        have := HLB.out
        simp only [enB, idB, List.length_append, leB_len] at hle this ⊢
        omega
      have hids := HIB.out x (by rw [hx]; exact List.getElem_mem hkl)
      have hpl := HVB.out.pairs x (by rw [hx]; exact List.getElem_mem hkl)
      have hx1 : wr.cell? ⟨r, o + k * 3, none⟩ = some (.int .u64 (x.ms : Int)) := (hbb.cell (p := ⟨r, _, none⟩) hr).trans hk1
      have hx2 : wr.cell? ⟨r, o + k * 3 + 1, none⟩ = some (.int .u64 (x.seq : Int)) := (hbb.cell (p := ⟨r, _, none⟩) hr).trans hk2
      have HX3 : Hid (∀ W, Below B w1 W → W.cell? ⟨r, o + k * 3 + 2, none⟩ = some pv ∧ PairsAt W B pv x.pairs) := Lib.hid (fun W hW => ⟨(hW.cell (p := ⟨r, _, none⟩) hr).trans hk3, hk4.below hW⟩)
      have HBK := Lib.hid hbk
      have HPL := Lib.hid hpl
      have HC := Lib.hid (ref_id x.ms x.seq _ _ B wr HR.out HBS.out hids (by have := hbk; simp only [List.length_append, leB_len, hid16] at this ⊢; omega))
      clear hx hc hk1 hk2 hk3 hk4 hle hbk hbb hids hpl
      go_wp2_with fail
      refine HC.out.mono ?_
      rintro e w3 ⟨v3, rfl, hr3, ha3⟩
      have HA3 := Lib.hid (HA.out.trans ha3)
      obtain ⟨hx3, hpp⟩ := HX3.out w3 (HBL.out _ _ HA3.out)
      have hd6 := HF.out _ _ HA3.out
      have HD := Lib.hid (ref_couples x.pairs pv _ _ B w3 hr3 (by have := HBS.out; have := ha3.size; omega) hpp HPL.out (by have := HBK.out; simp only [idB, List.length_append, leB_len] at this ⊢; omega))
      clear hr3 ha3 hx1 hx2 hd5 hpp
      go_wp2_with fail
      refine HD.out.mono ?_
      rintro e w4 ⟨v4, rfl, hr4, ha4⟩
      have HR4 := Lib.hid hr4
      have HA4 := Lib.hid (HA3.out.trans ha4)
      clear hr4 ha4
      go_wp2_with fail
      go_roundw
      case rel => exact ⟨k + 1, by omega, by go_num, Lib.hid (by rw [flat_succ hkl, ← HX'.out, enB]; simpa only [List.append_assoc] using HR4.out), HA4⟩
      case measure => simp [intOf]; omega
    · have hkL : k = va.stream.length := by have := HL.out; omega
      have HKL := Lib.hid hkL
      clear hkL
      go_wp2_with fail
      go_ret
      have hR := HR.out
      rw [HKL.out, List.take_length] at hR
      exact ⟨_, rfl, by rw [HE.out, listB, ← HL.out, ← List.append_assoc, ← List.append_assoc]; exact hR, HAA1.out.trans HA.out⟩

theorem ref_value (va : Va) (c : Cl) (v : Value) (l : List UInt8) (B : Nat) (w : World) (h : Row w B v l) (hB : B ≤ w.heap.size) (hv : ValAt w B c va) (hV : VaB va) (hI : IdsB va) (h1 : 1 ≤ va.kind) (h6 : va.kind ≤ 6) (hb : l.length + (1 + (vaB va).length) ≤ 140737488355328) :
    Adds 74 #[v, vV va c] w B v l (leB va.kind 1 ++ vaB va) := by
  have hk : va.kind = 1 ∨ va.kind = 2 ∨ va.kind = 3 ∨ va.kind = 4 ∨ va.kind = 5 ∨ va.kind = 6 := by omega
  rcases hk with hk | hk | hk | hk | hk | hk
  · exact ref_value_1 va c v l B w h hB hv hV hI hk hb
  · exact ref_value_2 va c v l B w h hB hv hV hI hk hb
  · exact ref_value_3 va c v l B w h hB hv hV hI hk hb
  · exact ref_value_4 va c v l B w h hB hv hV hI hk hb
  · exact ref_value_5 va c v l B w h hB hv hV hI hk hb
  · exact ref_value_6 va c v l B w h hB hv hV hI hk hb
end Go.Proofs.YtpnmhldaaaemeaaGreat.Snp
