import Derived.Test.YtpnmhldaaaemeaaMa19
import Derived.Test.YtpnmhldaaaemeaaMa6
/- Chapter 24: are two values, two items the same. Printed by gen_samev24.py. -/
namespace Go.Proofs.Ytpnmhldaaaemeaa.Snp
open Go.RowKit Go.Proofs.Ytpnmhldaaaemeaa.Pin

/-- what is asked of a value whose members' scores are numbers -/
structure SaB (v : Va) : Prop where
  vab : VaB v
  nums : ∀ z ∈ v.zset, FEq z.2 z.2
abbrev vOb (v : Va) (c : Cl) : Obj := .cells #[.int .u8 (v.kind : Int), .string v.text, c.lv, c.hv, c.sv, c.zv, c.ev, .int .u64 (v.ms : Int), .int .u64 (v.seq : Int)] 31
theorem vOb_cells {W : World} {b : Nat} {v : Va} {c : Cl} (h : W.heap[b]? = some (vOb v c)) :
    W.cell? ⟨b, 0, none⟩ = some (.int .u8 (v.kind : Int)) ∧ W.cell? ⟨b, 1, none⟩ = some (.string v.text) ∧ W.cell? ⟨b, 2, none⟩ = some (c.lv) ∧ W.cell? ⟨b, 3, none⟩ = some (c.hv) ∧ W.cell? ⟨b, 4, none⟩ = some (c.sv) ∧ W.cell? ⟨b, 5, none⟩ = some (c.zv) ∧ W.cell? ⟨b, 6, none⟩ = some (c.ev) ∧ W.cell? ⟨b, 7, none⟩ = some (.int .u64 (v.ms : Int)) ∧ W.cell? ⟨b, 8, none⟩ = some (.int .u64 (v.seq : Int)) := by
  refine ⟨?_, ?_, ?_, ?_, ?_, ?_, ?_, ?_, ?_⟩ <;> (rw [Lib.cell_of_heap h]; rfl)
theorem beq_cast {a b : Nat} (h : a = b) : ((a : Int) == (b : Int)) = true := by subst h; simp
theorem bne_cast {a b : Nat} (h : a ≠ b) : ((a : Int) == (b : Int)) = false := by simp; omega
theorem beq_text {a b : ByteArray} (h : a = b) : (a.toList == b.toList) = true := by subst h; simp
theorem bne_text {a b : ByteArray} (h : a ≠ b) : (a.toList == b.toList) = false := by
  cases hq : (a.toList == b.toList) with
  | false => rfl
  | true => exact absurd (text_ext (eq_of_beq hq)) h
theorem Va.same {x y : Va} (h1 : x.kind = y.kind) (h2 : x.text = y.text) (h3 : x.list = y.list) (h4 : x.hash = y.hash) (h5 : x.set = y.set) (h6 : x.zset = y.zset) (h7 : x.stream = y.stream) (h8 : x.ms = y.ms ∧ x.seq = y.seq) : x = y := by
  cases x
  cases y
  obtain ⟨h8, h9⟩ := h8
  simp only at *
  subst h1 h2 h3 h4 h5 h6 h7 h8 h9
  rfl
theorem It.same {x y : It} (h1 : x.db = y.db) (h2 : x.key = y.key) (h3 : x.val = y.val) (h4 : x.dead = y.dead) : x = y := by
  cases x
  cases y
  simp only at *
  subst h1 h2 h3 h4
  rfl
set_option maxHeartbeats 2000000 in
set_option maxRecDepth 100000 in
set_option linter.unusedVariables false in
theorem samev_1 (x y : Va) (c d : Cl) (w : World) (hx : ValAt w w.heap.size c x) (hy : ValAt w w.heap.size d y) (hB : SaB x) (hD : SaB y)  (h1 : ¬ x.kind = y.kind) :
    Calls Try.prog 82 #[vV x c, vV y d] w fun e w' => e = .returned (.bool false) ∧ Below w.heap.size w w' := by
  have e1 := bne_cast h1
  have HB0 : Hid (Below w.heap.size w ((w.alloc (vOb x c)).alloc (vOb y d))) := Lib.hid (((Below.refl _ w).alloc (Nat.le_refl _) _).alloc (by simp) _)
  have HX0 : Hid (((w.alloc (vOb x c)).alloc (vOb y d)).heap[w.heap.size]? = some (vOb x c)) := Lib.hid ((Lib.alloc_old _ _ _ (by simp)).trans (heap_alloc_new w _))
  have HY0 : Hid (((w.alloc (vOb x c)).alloc (vOb y d)).heap[w.heap.size + 1]? = some (vOb y d)) := Lib.hid (by have := heap_alloc_new (w.alloc (vOb x c)) (vOb y d); simpa using this)
  clear hx hy hB hD  h1
  go_enter Try.func82, Try.ntmps82
  go_wp2_with fail
  go_ret
  exact ⟨rfl, HB0.out⟩
set_option maxHeartbeats 2000000 in
set_option maxRecDepth 100000 in
set_option linter.unusedVariables false in
theorem samev_2 (x y : Va) (c d : Cl) (w : World) (hx : ValAt w w.heap.size c x) (hy : ValAt w w.heap.size d y) (hB : SaB x) (hD : SaB y) (h1 : x.kind = y.kind) (h2 : ¬ x.text = y.text) :
    Calls Try.prog 82 #[vV x c, vV y d] w fun e w' => e = .returned (.bool false) ∧ Below w.heap.size w w' := by
  have e1 := beq_cast h1
  have e2 := bne_text h2
  have HB0 : Hid (Below w.heap.size w ((w.alloc (vOb x c)).alloc (vOb y d))) := Lib.hid (((Below.refl _ w).alloc (Nat.le_refl _) _).alloc (by simp) _)
  have HX0 : Hid (((w.alloc (vOb x c)).alloc (vOb y d)).heap[w.heap.size]? = some (vOb x c)) := Lib.hid ((Lib.alloc_old _ _ _ (by simp)).trans (heap_alloc_new w _))
  have HY0 : Hid (((w.alloc (vOb x c)).alloc (vOb y d)).heap[w.heap.size + 1]? = some (vOb y d)) := Lib.hid (by have := heap_alloc_new (w.alloc (vOb x c)) (vOb y d); simpa using this)
  clear hx hy hB hD h1 h2
  go_enter Try.func82, Try.ntmps82
  go_wp2_with fail
  go_ret
  exact ⟨rfl, HB0.out⟩
set_option maxHeartbeats 2000000 in
set_option maxRecDepth 100000 in
set_option linter.unusedVariables false in
theorem samev_3 (x y : Va) (c d : Cl) (w : World) (hx : ValAt w w.heap.size c x) (hy : ValAt w w.heap.size d y) (hB : SaB x) (hD : SaB y) (h1 : x.kind = y.kind) (h2 : x.text = y.text) (h3 : ¬ x.list = y.list) :
    Calls Try.prog 82 #[vV x c, vV y d] w fun e w' => e = .returned (.bool false) ∧ Below w.heap.size w w' := by
  have e1 := beq_cast h1
  have e2 := beq_text h2
  have C3 : Hid (∀ W, Below w.heap.size w W → Calls Try.prog 104 #[c.lv, d.lv] W fun e w' => e = .returned (.bool false) ∧ Below W.heap.size W w') := Lib.hid (fun W hW => (same_texts x.list y.list _ _ W ((hx.list.below hW).more hW.size) ((hy.list.below hW).more hW.size) hB.vab.list).no h3)
  have HB0 : Hid (Below w.heap.size w ((w.alloc (vOb x c)).alloc (vOb y d))) := Lib.hid (((Below.refl _ w).alloc (Nat.le_refl _) _).alloc (by simp) _)
  have HX0 : Hid (((w.alloc (vOb x c)).alloc (vOb y d)).heap[w.heap.size]? = some (vOb x c)) := Lib.hid ((Lib.alloc_old _ _ _ (by simp)).trans (heap_alloc_new w _))
  have HY0 : Hid (((w.alloc (vOb x c)).alloc (vOb y d)).heap[w.heap.size + 1]? = some (vOb y d)) := Lib.hid (by have := heap_alloc_new (w.alloc (vOb x c)) (vOb y d); simpa using this)
  clear hx hy hB hD h1 h2 h3
  go_enter Try.func82, Try.ntmps82
  go_wp2_with fail
  refine (C3.out _ HB0.out).mono ?_
  rintro e w3 ⟨rfl, hb⟩
  have HB3 : Hid (Below w.heap.size w w3) := Lib.hid (HB0.out.trans (hb.mono HB0.out.size))
  have HX3 : Hid (w3.heap[w.heap.size]? = some (vOb x c)) := Lib.hid ((hb.block _ (Array.getElem?_eq_some_iff.1 HX0.out).1).trans HX0.out)
  have HY3 : Hid (w3.heap[w.heap.size + 1]? = some (vOb y d)) := Lib.hid ((hb.block _ (Array.getElem?_eq_some_iff.1 HY0.out).1).trans HY0.out)
  obtain ⟨x30, x31, x32, x33, x34, x35, x36, x37, x38⟩ := vOb_cells HX3.out
  obtain ⟨y30, y31, y32, y33, y34, y35, y36, y37, y38⟩ := vOb_cells HY3.out
  clear hb
  go_wp2_with fail
  go_ret
  exact ⟨rfl, HB3.out⟩
set_option maxHeartbeats 2000000 in
set_option maxRecDepth 100000 in
set_option linter.unusedVariables false in
theorem samev_4 (x y : Va) (c d : Cl) (w : World) (hx : ValAt w w.heap.size c x) (hy : ValAt w w.heap.size d y) (hB : SaB x) (hD : SaB y) (h1 : x.kind = y.kind) (h2 : x.text = y.text) (h3 : x.list = y.list) (h4 : ¬ x.hash = y.hash) :
    Calls Try.prog 82 #[vV x c, vV y d] w fun e w' => e = .returned (.bool false) ∧ Below w.heap.size w w' := by
  have e1 := beq_cast h1
  have e2 := beq_text h2
  have C3 : Hid (∀ W, Below w.heap.size w W → Calls Try.prog 104 #[c.lv, d.lv] W fun e w' => e = .returned (.bool true) ∧ Below W.heap.size W w') := Lib.hid (fun W hW => (same_texts x.list y.list _ _ W ((hx.list.below hW).more hW.size) ((hy.list.below hW).more hW.size) hB.vab.list).yes h3)
  have C4 : Hid (∀ W, Below w.heap.size w W → Calls Try.prog 105 #[c.hv, d.hv] W fun e w' => e = .returned (.bool false) ∧ Below W.heap.size W w') := Lib.hid (fun W hW => (same_pairs x.hash y.hash _ _ W ((hx.hash.below hW).more hW.size) ((hy.hash.below hW).more hW.size) hB.vab.hash).no h4)
  have HB0 : Hid (Below w.heap.size w ((w.alloc (vOb x c)).alloc (vOb y d))) := Lib.hid (((Below.refl _ w).alloc (Nat.le_refl _) _).alloc (by simp) _)
  have HX0 : Hid (((w.alloc (vOb x c)).alloc (vOb y d)).heap[w.heap.size]? = some (vOb x c)) := Lib.hid ((Lib.alloc_old _ _ _ (by simp)).trans (heap_alloc_new w _))
  have HY0 : Hid (((w.alloc (vOb x c)).alloc (vOb y d)).heap[w.heap.size + 1]? = some (vOb y d)) := Lib.hid (by have := heap_alloc_new (w.alloc (vOb x c)) (vOb y d); simpa using this)
  clear hx hy hB hD h1 h2 h3 h4
  go_enter Try.func82, Try.ntmps82
  go_wp2_with fail
  refine (C3.out _ HB0.out).mono ?_
  rintro e w3 ⟨rfl, hb⟩
  have HB3 : Hid (Below w.heap.size w w3) := Lib.hid (HB0.out.trans (hb.mono HB0.out.size))
  have HX3 : Hid (w3.heap[w.heap.size]? = some (vOb x c)) := Lib.hid ((hb.block _ (Array.getElem?_eq_some_iff.1 HX0.out).1).trans HX0.out)
  have HY3 : Hid (w3.heap[w.heap.size + 1]? = some (vOb y d)) := Lib.hid ((hb.block _ (Array.getElem?_eq_some_iff.1 HY0.out).1).trans HY0.out)
  obtain ⟨x30, x31, x32, x33, x34, x35, x36, x37, x38⟩ := vOb_cells HX3.out
  obtain ⟨y30, y31, y32, y33, y34, y35, y36, y37, y38⟩ := vOb_cells HY3.out
  clear hb
  go_wp2_with fail
  refine (C4.out _ HB3.out).mono ?_
  rintro e w4 ⟨rfl, hb⟩
  have HB4 : Hid (Below w.heap.size w w4) := Lib.hid (HB3.out.trans (hb.mono HB3.out.size))
  have HX4 : Hid (w4.heap[w.heap.size]? = some (vOb x c)) := Lib.hid ((hb.block _ (Array.getElem?_eq_some_iff.1 HX3.out).1).trans HX3.out)
  have HY4 : Hid (w4.heap[w.heap.size + 1]? = some (vOb y d)) := Lib.hid ((hb.block _ (Array.getElem?_eq_some_iff.1 HY3.out).1).trans HY3.out)
  obtain ⟨x40, x41, x42, x43, x44, x45, x46, x47, x48⟩ := vOb_cells HX4.out
  obtain ⟨y40, y41, y42, y43, y44, y45, y46, y47, y48⟩ := vOb_cells HY4.out
  clear hb
  go_wp2_with fail
  go_ret
  exact ⟨rfl, HB4.out⟩
set_option maxHeartbeats 2000000 in
set_option maxRecDepth 100000 in
set_option linter.unusedVariables false in
theorem samev_5 (x y : Va) (c d : Cl) (w : World) (hx : ValAt w w.heap.size c x) (hy : ValAt w w.heap.size d y) (hB : SaB x) (hD : SaB y) (h1 : x.kind = y.kind) (h2 : x.text = y.text) (h3 : x.list = y.list) (h4 : x.hash = y.hash) (h5 : ¬ x.set = y.set) :
    Calls Try.prog 82 #[vV x c, vV y d] w fun e w' => e = .returned (.bool false) ∧ Below w.heap.size w w' := by
  have e1 := beq_cast h1
  have e2 := beq_text h2
  have C3 : Hid (∀ W, Below w.heap.size w W → Calls Try.prog 104 #[c.lv, d.lv] W fun e w' => e = .returned (.bool true) ∧ Below W.heap.size W w') := Lib.hid (fun W hW => (same_texts x.list y.list _ _ W ((hx.list.below hW).more hW.size) ((hy.list.below hW).more hW.size) hB.vab.list).yes h3)
  have C4 : Hid (∀ W, Below w.heap.size w W → Calls Try.prog 105 #[c.hv, d.hv] W fun e w' => e = .returned (.bool true) ∧ Below W.heap.size W w') := Lib.hid (fun W hW => (same_pairs x.hash y.hash _ _ W ((hx.hash.below hW).more hW.size) ((hy.hash.below hW).more hW.size) hB.vab.hash).yes h4)
  have C5 : Hid (∀ W, Below w.heap.size w W → Calls Try.prog 104 #[c.sv, d.sv] W fun e w' => e = .returned (.bool false) ∧ Below W.heap.size W w') := Lib.hid (fun W hW => (same_texts x.set y.set _ _ W ((hx.set.below hW).more hW.size) ((hy.set.below hW).more hW.size) hB.vab.set).no h5)
  have HB0 : Hid (Below w.heap.size w ((w.alloc (vOb x c)).alloc (vOb y d))) := Lib.hid (((Below.refl _ w).alloc (Nat.le_refl _) _).alloc (by simp) _)
  have HX0 : Hid (((w.alloc (vOb x c)).alloc (vOb y d)).heap[w.heap.size]? = some (vOb x c)) := Lib.hid ((Lib.alloc_old _ _ _ (by simp)).trans (heap_alloc_new w _))
  have HY0 : Hid (((w.alloc (vOb x c)).alloc (vOb y d)).heap[w.heap.size + 1]? = some (vOb y d)) := Lib.hid (by have := heap_alloc_new (w.alloc (vOb x c)) (vOb y d); simpa using this)
  clear hx hy hB hD h1 h2 h3 h4 h5
  go_enter Try.func82, Try.ntmps82
  go_wp2_with fail
  refine (C3.out _ HB0.out).mono ?_
  rintro e w3 ⟨rfl, hb⟩
  have HB3 : Hid (Below w.heap.size w w3) := Lib.hid (HB0.out.trans (hb.mono HB0.out.size))
  have HX3 : Hid (w3.heap[w.heap.size]? = some (vOb x c)) := Lib.hid ((hb.block _ (Array.getElem?_eq_some_iff.1 HX0.out).1).trans HX0.out)
  have HY3 : Hid (w3.heap[w.heap.size + 1]? = some (vOb y d)) := Lib.hid ((hb.block _ (Array.getElem?_eq_some_iff.1 HY0.out).1).trans HY0.out)
  obtain ⟨x30, x31, x32, x33, x34, x35, x36, x37, x38⟩ := vOb_cells HX3.out
  obtain ⟨y30, y31, y32, y33, y34, y35, y36, y37, y38⟩ := vOb_cells HY3.out
  clear hb
  go_wp2_with fail
  refine (C4.out _ HB3.out).mono ?_
  rintro e w4 ⟨rfl, hb⟩
  have HB4 : Hid (Below w.heap.size w w4) := Lib.hid (HB3.out.trans (hb.mono HB3.out.size))
  have HX4 : Hid (w4.heap[w.heap.size]? = some (vOb x c)) := Lib.hid ((hb.block _ (Array.getElem?_eq_some_iff.1 HX3.out).1).trans HX3.out)
  have HY4 : Hid (w4.heap[w.heap.size + 1]? = some (vOb y d)) := Lib.hid ((hb.block _ (Array.getElem?_eq_some_iff.1 HY3.out).1).trans HY3.out)
  obtain ⟨x40, x41, x42, x43, x44, x45, x46, x47, x48⟩ := vOb_cells HX4.out
  obtain ⟨y40, y41, y42, y43, y44, y45, y46, y47, y48⟩ := vOb_cells HY4.out
  clear hb
  go_wp2_with fail
  refine (C5.out _ HB4.out).mono ?_
  rintro e w5 ⟨rfl, hb⟩
  have HB5 : Hid (Below w.heap.size w w5) := Lib.hid (HB4.out.trans (hb.mono HB4.out.size))
  have HX5 : Hid (w5.heap[w.heap.size]? = some (vOb x c)) := Lib.hid ((hb.block _ (Array.getElem?_eq_some_iff.1 HX4.out).1).trans HX4.out)
  have HY5 : Hid (w5.heap[w.heap.size + 1]? = some (vOb y d)) := Lib.hid ((hb.block _ (Array.getElem?_eq_some_iff.1 HY4.out).1).trans HY4.out)
  obtain ⟨x50, x51, x52, x53, x54, x55, x56, x57, x58⟩ := vOb_cells HX5.out
  obtain ⟨y50, y51, y52, y53, y54, y55, y56, y57, y58⟩ := vOb_cells HY5.out
  clear hb
  go_wp2_with fail
  go_ret
  exact ⟨rfl, HB5.out⟩
set_option maxHeartbeats 2000000 in
set_option maxRecDepth 100000 in
set_option linter.unusedVariables false in
theorem samev_6 (x y : Va) (c d : Cl) (w : World) (hx : ValAt w w.heap.size c x) (hy : ValAt w w.heap.size d y) (hB : SaB x) (hD : SaB y) (h1 : x.kind = y.kind) (h2 : x.text = y.text) (h3 : x.list = y.list) (h4 : x.hash = y.hash) (h5 : x.set = y.set) (h6 : ¬ x.zset = y.zset) :
    Calls Try.prog 82 #[vV x c, vV y d] w fun e w' => e = .returned (.bool false) ∧ Below w.heap.size w w' := by
  have e1 := beq_cast h1
  have e2 := beq_text h2
  have C3 : Hid (∀ W, Below w.heap.size w W → Calls Try.prog 104 #[c.lv, d.lv] W fun e w' => e = .returned (.bool true) ∧ Below W.heap.size W w') := Lib.hid (fun W hW => (same_texts x.list y.list _ _ W ((hx.list.below hW).more hW.size) ((hy.list.below hW).more hW.size) hB.vab.list).yes h3)
  have C4 : Hid (∀ W, Below w.heap.size w W → Calls Try.prog 105 #[c.hv, d.hv] W fun e w' => e = .returned (.bool true) ∧ Below W.heap.size W w') := Lib.hid (fun W hW => (same_pairs x.hash y.hash _ _ W ((hx.hash.below hW).more hW.size) ((hy.hash.below hW).more hW.size) hB.vab.hash).yes h4)
  have C5 : Hid (∀ W, Below w.heap.size w W → Calls Try.prog 104 #[c.sv, d.sv] W fun e w' => e = .returned (.bool true) ∧ Below W.heap.size W w') := Lib.hid (fun W hW => (same_texts x.set y.set _ _ W ((hx.set.below hW).more hW.size) ((hy.set.below hW).more hW.size) hB.vab.set).yes h5)
  have C6 : Hid (∀ W, Below w.heap.size w W → Calls Try.prog 106 #[c.zv, d.zv] W fun e w' => e = .returned (.bool false) ∧ Below W.heap.size W w') := Lib.hid (fun W hW => (same_scoreds x.zset y.zset _ _ W ((hx.zset.below hW).more hW.size) ((hy.zset.below hW).more hW.size) hB.vab.zset hB.nums hD.nums).no h6)
  have HB0 : Hid (Below w.heap.size w ((w.alloc (vOb x c)).alloc (vOb y d))) := Lib.hid (((Below.refl _ w).alloc (Nat.le_refl _) _).alloc (by simp) _)
  have HX0 : Hid (((w.alloc (vOb x c)).alloc (vOb y d)).heap[w.heap.size]? = some (vOb x c)) := Lib.hid ((Lib.alloc_old _ _ _ (by simp)).trans (heap_alloc_new w _))
  have HY0 : Hid (((w.alloc (vOb x c)).alloc (vOb y d)).heap[w.heap.size + 1]? = some (vOb y d)) := Lib.hid (by have := heap_alloc_new (w.alloc (vOb x c)) (vOb y d); simpa using this)
  clear hx hy hB hD h1 h2 h3 h4 h5 h6
  go_enter Try.func82, Try.ntmps82
  go_wp2_with fail
  refine (C3.out _ HB0.out).mono ?_
  rintro e w3 ⟨rfl, hb⟩
  have HB3 : Hid (Below w.heap.size w w3) := Lib.hid (HB0.out.trans (hb.mono HB0.out.size))
  have HX3 : Hid (w3.heap[w.heap.size]? = some (vOb x c)) := Lib.hid ((hb.block _ (Array.getElem?_eq_some_iff.1 HX0.out).1).trans HX0.out)
  have HY3 : Hid (w3.heap[w.heap.size + 1]? = some (vOb y d)) := Lib.hid ((hb.block _ (Array.getElem?_eq_some_iff.1 HY0.out).1).trans HY0.out)
  obtain ⟨x30, x31, x32, x33, x34, x35, x36, x37, x38⟩ := vOb_cells HX3.out
  obtain ⟨y30, y31, y32, y33, y34, y35, y36, y37, y38⟩ := vOb_cells HY3.out
  clear hb
  go_wp2_with fail
  refine (C4.out _ HB3.out).mono ?_
  rintro e w4 ⟨rfl, hb⟩
  have HB4 : Hid (Below w.heap.size w w4) := Lib.hid (HB3.out.trans (hb.mono HB3.out.size))
  have HX4 : Hid (w4.heap[w.heap.size]? = some (vOb x c)) := Lib.hid ((hb.block _ (Array.getElem?_eq_some_iff.1 HX3.out).1).trans HX3.out)
  have HY4 : Hid (w4.heap[w.heap.size + 1]? = some (vOb y d)) := Lib.hid ((hb.block _ (Array.getElem?_eq_some_iff.1 HY3.out).1).trans HY3.out)
  obtain ⟨x40, x41, x42, x43, x44, x45, x46, x47, x48⟩ := vOb_cells HX4.out
  obtain ⟨y40, y41, y42, y43, y44, y45, y46, y47, y48⟩ := vOb_cells HY4.out
  clear hb
  go_wp2_with fail
  refine (C5.out _ HB4.out).mono ?_
  rintro e w5 ⟨rfl, hb⟩
  have HB5 : Hid (Below w.heap.size w w5) := Lib.hid (HB4.out.trans (hb.mono HB4.out.size))
  have HX5 : Hid (w5.heap[w.heap.size]? = some (vOb x c)) := Lib.hid ((hb.block _ (Array.getElem?_eq_some_iff.1 HX4.out).1).trans HX4.out)
  have HY5 : Hid (w5.heap[w.heap.size + 1]? = some (vOb y d)) := Lib.hid ((hb.block _ (Array.getElem?_eq_some_iff.1 HY4.out).1).trans HY4.out)
  obtain ⟨x50, x51, x52, x53, x54, x55, x56, x57, x58⟩ := vOb_cells HX5.out
  obtain ⟨y50, y51, y52, y53, y54, y55, y56, y57, y58⟩ := vOb_cells HY5.out
  clear hb
  go_wp2_with fail
  refine (C6.out _ HB5.out).mono ?_
  rintro e w6 ⟨rfl, hb⟩
  have HB6 : Hid (Below w.heap.size w w6) := Lib.hid (HB5.out.trans (hb.mono HB5.out.size))
  have HX6 : Hid (w6.heap[w.heap.size]? = some (vOb x c)) := Lib.hid ((hb.block _ (Array.getElem?_eq_some_iff.1 HX5.out).1).trans HX5.out)
  have HY6 : Hid (w6.heap[w.heap.size + 1]? = some (vOb y d)) := Lib.hid ((hb.block _ (Array.getElem?_eq_some_iff.1 HY5.out).1).trans HY5.out)
  obtain ⟨x60, x61, x62, x63, x64, x65, x66, x67, x68⟩ := vOb_cells HX6.out
  obtain ⟨y60, y61, y62, y63, y64, y65, y66, y67, y68⟩ := vOb_cells HY6.out
  clear hb
  go_wp2_with fail
  go_ret
  exact ⟨rfl, HB6.out⟩
set_option maxHeartbeats 2000000 in
set_option maxRecDepth 100000 in
set_option linter.unusedVariables false in
theorem samev_7 (x y : Va) (c d : Cl) (w : World) (hx : ValAt w w.heap.size c x) (hy : ValAt w w.heap.size d y) (hB : SaB x) (hD : SaB y) (h1 : x.kind = y.kind) (h2 : x.text = y.text) (h3 : x.list = y.list) (h4 : x.hash = y.hash) (h5 : x.set = y.set) (h6 : x.zset = y.zset) (h7 : ¬ x.stream = y.stream) :
    Calls Try.prog 82 #[vV x c, vV y d] w fun e w' => e = .returned (.bool false) ∧ Below w.heap.size w w' := by
  have e1 := beq_cast h1
  have e2 := beq_text h2
  have C3 : Hid (∀ W, Below w.heap.size w W → Calls Try.prog 104 #[c.lv, d.lv] W fun e w' => e = .returned (.bool true) ∧ Below W.heap.size W w') := Lib.hid (fun W hW => (same_texts x.list y.list _ _ W ((hx.list.below hW).more hW.size) ((hy.list.below hW).more hW.size) hB.vab.list).yes h3)
  have C4 : Hid (∀ W, Below w.heap.size w W → Calls Try.prog 105 #[c.hv, d.hv] W fun e w' => e = .returned (.bool true) ∧ Below W.heap.size W w') := Lib.hid (fun W hW => (same_pairs x.hash y.hash _ _ W ((hx.hash.below hW).more hW.size) ((hy.hash.below hW).more hW.size) hB.vab.hash).yes h4)
  have C5 : Hid (∀ W, Below w.heap.size w W → Calls Try.prog 104 #[c.sv, d.sv] W fun e w' => e = .returned (.bool true) ∧ Below W.heap.size W w') := Lib.hid (fun W hW => (same_texts x.set y.set _ _ W ((hx.set.below hW).more hW.size) ((hy.set.below hW).more hW.size) hB.vab.set).yes h5)
  have C6 : Hid (∀ W, Below w.heap.size w W → Calls Try.prog 106 #[c.zv, d.zv] W fun e w' => e = .returned (.bool true) ∧ Below W.heap.size W w') := Lib.hid (fun W hW => (same_scoreds x.zset y.zset _ _ W ((hx.zset.below hW).more hW.size) ((hy.zset.below hW).more hW.size) hB.vab.zset hB.nums hD.nums).yes h6)
  have C7 : Hid (∀ W, Below w.heap.size w W → Calls Try.prog 107 #[c.ev, d.ev] W fun e w' => e = .returned (.bool false) ∧ Below W.heap.size W w') := Lib.hid (fun W hW => (same_entries x.stream y.stream _ _ W ((hx.stream.below hW).more hW.size) ((hy.stream.below hW).more hW.size) hB.vab.stream hB.vab.pairs).no h7)
  have HB0 : Hid (Below w.heap.size w ((w.alloc (vOb x c)).alloc (vOb y d))) := Lib.hid (((Below.refl _ w).alloc (Nat.le_refl _) _).alloc (by simp) _)
  have HX0 : Hid (((w.alloc (vOb x c)).alloc (vOb y d)).heap[w.heap.size]? = some (vOb x c)) := Lib.hid ((Lib.alloc_old _ _ _ (by simp)).trans (heap_alloc_new w _))
  have HY0 : Hid (((w.alloc (vOb x c)).alloc (vOb y d)).heap[w.heap.size + 1]? = some (vOb y d)) := Lib.hid (by have := heap_alloc_new (w.alloc (vOb x c)) (vOb y d); simpa using this)
  clear hx hy hB hD h1 h2 h3 h4 h5 h6 h7
  go_enter Try.func82, Try.ntmps82
  go_wp2_with fail
  refine (C3.out _ HB0.out).mono ?_
  rintro e w3 ⟨rfl, hb⟩
  have HB3 : Hid (Below w.heap.size w w3) := Lib.hid (HB0.out.trans (hb.mono HB0.out.size))
  have HX3 : Hid (w3.heap[w.heap.size]? = some (vOb x c)) := Lib.hid ((hb.block _ (Array.getElem?_eq_some_iff.1 HX0.out).1).trans HX0.out)
  have HY3 : Hid (w3.heap[w.heap.size + 1]? = some (vOb y d)) := Lib.hid ((hb.block _ (Array.getElem?_eq_some_iff.1 HY0.out).1).trans HY0.out)
  obtain ⟨x30, x31, x32, x33, x34, x35, x36, x37, x38⟩ := vOb_cells HX3.out
  obtain ⟨y30, y31, y32, y33, y34, y35, y36, y37, y38⟩ := vOb_cells HY3.out
  clear hb
  go_wp2_with fail
  refine (C4.out _ HB3.out).mono ?_
  rintro e w4 ⟨rfl, hb⟩
  have HB4 : Hid (Below w.heap.size w w4) := Lib.hid (HB3.out.trans (hb.mono HB3.out.size))
  have HX4 : Hid (w4.heap[w.heap.size]? = some (vOb x c)) := Lib.hid ((hb.block _ (Array.getElem?_eq_some_iff.1 HX3.out).1).trans HX3.out)
  have HY4 : Hid (w4.heap[w.heap.size + 1]? = some (vOb y d)) := Lib.hid ((hb.block _ (Array.getElem?_eq_some_iff.1 HY3.out).1).trans HY3.out)
  obtain ⟨x40, x41, x42, x43, x44, x45, x46, x47, x48⟩ := vOb_cells HX4.out
  obtain ⟨y40, y41, y42, y43, y44, y45, y46, y47, y48⟩ := vOb_cells HY4.out
  clear hb
  go_wp2_with fail
  refine (C5.out _ HB4.out).mono ?_
  rintro e w5 ⟨rfl, hb⟩
  have HB5 : Hid (Below w.heap.size w w5) := Lib.hid (HB4.out.trans (hb.mono HB4.out.size))
  have HX5 : Hid (w5.heap[w.heap.size]? = some (vOb x c)) := Lib.hid ((hb.block _ (Array.getElem?_eq_some_iff.1 HX4.out).1).trans HX4.out)
  have HY5 : Hid (w5.heap[w.heap.size + 1]? = some (vOb y d)) := Lib.hid ((hb.block _ (Array.getElem?_eq_some_iff.1 HY4.out).1).trans HY4.out)
  obtain ⟨x50, x51, x52, x53, x54, x55, x56, x57, x58⟩ := vOb_cells HX5.out
  obtain ⟨y50, y51, y52, y53, y54, y55, y56, y57, y58⟩ := vOb_cells HY5.out
  clear hb
  go_wp2_with fail
  refine (C6.out _ HB5.out).mono ?_
  rintro e w6 ⟨rfl, hb⟩
  have HB6 : Hid (Below w.heap.size w w6) := Lib.hid (HB5.out.trans (hb.mono HB5.out.size))
  have HX6 : Hid (w6.heap[w.heap.size]? = some (vOb x c)) := Lib.hid ((hb.block _ (Array.getElem?_eq_some_iff.1 HX5.out).1).trans HX5.out)
  have HY6 : Hid (w6.heap[w.heap.size + 1]? = some (vOb y d)) := Lib.hid ((hb.block _ (Array.getElem?_eq_some_iff.1 HY5.out).1).trans HY5.out)
  obtain ⟨x60, x61, x62, x63, x64, x65, x66, x67, x68⟩ := vOb_cells HX6.out
  obtain ⟨y60, y61, y62, y63, y64, y65, y66, y67, y68⟩ := vOb_cells HY6.out
  clear hb
  go_wp2_with fail
  refine (C7.out _ HB6.out).mono ?_
  rintro e w7 ⟨rfl, hb⟩
  have HB7 : Hid (Below w.heap.size w w7) := Lib.hid (HB6.out.trans (hb.mono HB6.out.size))
  have HX7 : Hid (w7.heap[w.heap.size]? = some (vOb x c)) := Lib.hid ((hb.block _ (Array.getElem?_eq_some_iff.1 HX6.out).1).trans HX6.out)
  have HY7 : Hid (w7.heap[w.heap.size + 1]? = some (vOb y d)) := Lib.hid ((hb.block _ (Array.getElem?_eq_some_iff.1 HY6.out).1).trans HY6.out)
  obtain ⟨x70, x71, x72, x73, x74, x75, x76, x77, x78⟩ := vOb_cells HX7.out
  obtain ⟨y70, y71, y72, y73, y74, y75, y76, y77, y78⟩ := vOb_cells HY7.out
  clear hb
  go_wp2_with fail
  go_ret
  exact ⟨rfl, HB7.out⟩
set_option maxHeartbeats 2000000 in
set_option maxRecDepth 100000 in
set_option linter.unusedVariables false in
theorem samev_8 (x y : Va) (c d : Cl) (w : World) (hx : ValAt w w.heap.size c x) (hy : ValAt w w.heap.size d y) (hB : SaB x) (hD : SaB y) (h1 : x.kind = y.kind) (h2 : x.text = y.text) (h3 : x.list = y.list) (h4 : x.hash = y.hash) (h5 : x.set = y.set) (h6 : x.zset = y.zset) (h7 : x.stream = y.stream) (h8 : ¬ (x.ms = y.ms ∧ x.seq = y.seq)) :
    Calls Try.prog 82 #[vV x c, vV y d] w fun e w' => e = .returned (.bool false) ∧ Below w.heap.size w w' := by
  have e1 := beq_cast h1
  have e2 := beq_text h2
  have C3 : Hid (∀ W, Below w.heap.size w W → Calls Try.prog 104 #[c.lv, d.lv] W fun e w' => e = .returned (.bool true) ∧ Below W.heap.size W w') := Lib.hid (fun W hW => (same_texts x.list y.list _ _ W ((hx.list.below hW).more hW.size) ((hy.list.below hW).more hW.size) hB.vab.list).yes h3)
  have C4 : Hid (∀ W, Below w.heap.size w W → Calls Try.prog 105 #[c.hv, d.hv] W fun e w' => e = .returned (.bool true) ∧ Below W.heap.size W w') := Lib.hid (fun W hW => (same_pairs x.hash y.hash _ _ W ((hx.hash.below hW).more hW.size) ((hy.hash.below hW).more hW.size) hB.vab.hash).yes h4)
  have C5 : Hid (∀ W, Below w.heap.size w W → Calls Try.prog 104 #[c.sv, d.sv] W fun e w' => e = .returned (.bool true) ∧ Below W.heap.size W w') := Lib.hid (fun W hW => (same_texts x.set y.set _ _ W ((hx.set.below hW).more hW.size) ((hy.set.below hW).more hW.size) hB.vab.set).yes h5)
  have C6 : Hid (∀ W, Below w.heap.size w W → Calls Try.prog 106 #[c.zv, d.zv] W fun e w' => e = .returned (.bool true) ∧ Below W.heap.size W w') := Lib.hid (fun W hW => (same_scoreds x.zset y.zset _ _ W ((hx.zset.below hW).more hW.size) ((hy.zset.below hW).more hW.size) hB.vab.zset hB.nums hD.nums).yes h6)
  have C7 : Hid (∀ W, Below w.heap.size w W → Calls Try.prog 107 #[c.ev, d.ev] W fun e w' => e = .returned (.bool true) ∧ Below W.heap.size W w') := Lib.hid (fun W hW => (same_entries x.stream y.stream _ _ W ((hx.stream.below hW).more hW.size) ((hy.stream.below hW).more hW.size) hB.vab.stream hB.vab.pairs).yes h7)
  have HB0 : Hid (Below w.heap.size w ((w.alloc (vOb x c)).alloc (vOb y d))) := Lib.hid (((Below.refl _ w).alloc (Nat.le_refl _) _).alloc (by simp) _)
  have HX0 : Hid (((w.alloc (vOb x c)).alloc (vOb y d)).heap[w.heap.size]? = some (vOb x c)) := Lib.hid ((Lib.alloc_old _ _ _ (by simp)).trans (heap_alloc_new w _))
  have HY0 : Hid (((w.alloc (vOb x c)).alloc (vOb y d)).heap[w.heap.size + 1]? = some (vOb y d)) := Lib.hid (by have := heap_alloc_new (w.alloc (vOb x c)) (vOb y d); simpa using this)
  clear hx hy hB hD h1 h2 h3 h4 h5 h6 h7
  by_cases h9 : x.ms = y.ms
  · have E8 := Lib.hid (show (x.ms : Int) = (y.ms : Int) by rw [h9])
    have e9 : ¬ ((x.seq : Int) = (y.seq : Int)) := fun e => h8 ⟨h9, by omega⟩
    clear h8 h9
    go_enter Try.func82, Try.ntmps82
    go_wp2_with fail
    refine (C3.out _ HB0.out).mono ?_
    rintro e w3 ⟨rfl, hb⟩
    have HB3 : Hid (Below w.heap.size w w3) := Lib.hid (HB0.out.trans (hb.mono HB0.out.size))
    have HX3 : Hid (w3.heap[w.heap.size]? = some (vOb x c)) := Lib.hid ((hb.block _ (Array.getElem?_eq_some_iff.1 HX0.out).1).trans HX0.out)
    have HY3 : Hid (w3.heap[w.heap.size + 1]? = some (vOb y d)) := Lib.hid ((hb.block _ (Array.getElem?_eq_some_iff.1 HY0.out).1).trans HY0.out)
    obtain ⟨x30, x31, x32, x33, x34, x35, x36, x37, x38⟩ := vOb_cells HX3.out
    obtain ⟨y30, y31, y32, y33, y34, y35, y36, y37, y38⟩ := vOb_cells HY3.out
    clear hb
    go_wp2_with fail
    refine (C4.out _ HB3.out).mono ?_
    rintro e w4 ⟨rfl, hb⟩
    have HB4 : Hid (Below w.heap.size w w4) := Lib.hid (HB3.out.trans (hb.mono HB3.out.size))
    have HX4 : Hid (w4.heap[w.heap.size]? = some (vOb x c)) := Lib.hid ((hb.block _ (Array.getElem?_eq_some_iff.1 HX3.out).1).trans HX3.out)
    have HY4 : Hid (w4.heap[w.heap.size + 1]? = some (vOb y d)) := Lib.hid ((hb.block _ (Array.getElem?_eq_some_iff.1 HY3.out).1).trans HY3.out)
    obtain ⟨x40, x41, x42, x43, x44, x45, x46, x47, x48⟩ := vOb_cells HX4.out
    obtain ⟨y40, y41, y42, y43, y44, y45, y46, y47, y48⟩ := vOb_cells HY4.out
    clear hb
    go_wp2_with fail
    refine (C5.out _ HB4.out).mono ?_
    rintro e w5 ⟨rfl, hb⟩
    have HB5 : Hid (Below w.heap.size w w5) := Lib.hid (HB4.out.trans (hb.mono HB4.out.size))
    have HX5 : Hid (w5.heap[w.heap.size]? = some (vOb x c)) := Lib.hid ((hb.block _ (Array.getElem?_eq_some_iff.1 HX4.out).1).trans HX4.out)
    have HY5 : Hid (w5.heap[w.heap.size + 1]? = some (vOb y d)) := Lib.hid ((hb.block _ (Array.getElem?_eq_some_iff.1 HY4.out).1).trans HY4.out)
    obtain ⟨x50, x51, x52, x53, x54, x55, x56, x57, x58⟩ := vOb_cells HX5.out
    obtain ⟨y50, y51, y52, y53, y54, y55, y56, y57, y58⟩ := vOb_cells HY5.out
    clear hb
    go_wp2_with fail
    refine (C6.out _ HB5.out).mono ?_
    rintro e w6 ⟨rfl, hb⟩
    have HB6 : Hid (Below w.heap.size w w6) := Lib.hid (HB5.out.trans (hb.mono HB5.out.size))
    have HX6 : Hid (w6.heap[w.heap.size]? = some (vOb x c)) := Lib.hid ((hb.block _ (Array.getElem?_eq_some_iff.1 HX5.out).1).trans HX5.out)
    have HY6 : Hid (w6.heap[w.heap.size + 1]? = some (vOb y d)) := Lib.hid ((hb.block _ (Array.getElem?_eq_some_iff.1 HY5.out).1).trans HY5.out)
    obtain ⟨x60, x61, x62, x63, x64, x65, x66, x67, x68⟩ := vOb_cells HX6.out
    obtain ⟨y60, y61, y62, y63, y64, y65, y66, y67, y68⟩ := vOb_cells HY6.out
    clear hb
    go_wp2_with fail
    refine (C7.out _ HB6.out).mono ?_
    rintro e w7 ⟨rfl, hb⟩
    have HB7 : Hid (Below w.heap.size w w7) := Lib.hid (HB6.out.trans (hb.mono HB6.out.size))
    have HX7 : Hid (w7.heap[w.heap.size]? = some (vOb x c)) := Lib.hid ((hb.block _ (Array.getElem?_eq_some_iff.1 HX6.out).1).trans HX6.out)
    have HY7 : Hid (w7.heap[w.heap.size + 1]? = some (vOb y d)) := Lib.hid ((hb.block _ (Array.getElem?_eq_some_iff.1 HY6.out).1).trans HY6.out)
    obtain ⟨x70, x71, x72, x73, x74, x75, x76, x77, x78⟩ := vOb_cells HX7.out
    obtain ⟨y70, y71, y72, y73, y74, y75, y76, y77, y78⟩ := vOb_cells HY7.out
    clear hb
    have e8 := E8.out
    go_wp2_with fail
    go_ret
    exact ⟨rfl, HB7.out⟩
  · have e8 : ¬ ((x.ms : Int) = (y.ms : Int)) := fun e => h9 (by omega)
    clear h8 h9
    go_enter Try.func82, Try.ntmps82
    go_wp2_with fail
    refine (C3.out _ HB0.out).mono ?_
    rintro e w3 ⟨rfl, hb⟩
    have HB3 : Hid (Below w.heap.size w w3) := Lib.hid (HB0.out.trans (hb.mono HB0.out.size))
    have HX3 : Hid (w3.heap[w.heap.size]? = some (vOb x c)) := Lib.hid ((hb.block _ (Array.getElem?_eq_some_iff.1 HX0.out).1).trans HX0.out)
    have HY3 : Hid (w3.heap[w.heap.size + 1]? = some (vOb y d)) := Lib.hid ((hb.block _ (Array.getElem?_eq_some_iff.1 HY0.out).1).trans HY0.out)
    obtain ⟨x30, x31, x32, x33, x34, x35, x36, x37, x38⟩ := vOb_cells HX3.out
    obtain ⟨y30, y31, y32, y33, y34, y35, y36, y37, y38⟩ := vOb_cells HY3.out
    clear hb
    go_wp2_with fail
    refine (C4.out _ HB3.out).mono ?_
    rintro e w4 ⟨rfl, hb⟩
    have HB4 : Hid (Below w.heap.size w w4) := Lib.hid (HB3.out.trans (hb.mono HB3.out.size))
    have HX4 : Hid (w4.heap[w.heap.size]? = some (vOb x c)) := Lib.hid ((hb.block _ (Array.getElem?_eq_some_iff.1 HX3.out).1).trans HX3.out)
    have HY4 : Hid (w4.heap[w.heap.size + 1]? = some (vOb y d)) := Lib.hid ((hb.block _ (Array.getElem?_eq_some_iff.1 HY3.out).1).trans HY3.out)
    obtain ⟨x40, x41, x42, x43, x44, x45, x46, x47, x48⟩ := vOb_cells HX4.out
    obtain ⟨y40, y41, y42, y43, y44, y45, y46, y47, y48⟩ := vOb_cells HY4.out
    clear hb
    go_wp2_with fail
    refine (C5.out _ HB4.out).mono ?_
    rintro e w5 ⟨rfl, hb⟩
    have HB5 : Hid (Below w.heap.size w w5) := Lib.hid (HB4.out.trans (hb.mono HB4.out.size))
    have HX5 : Hid (w5.heap[w.heap.size]? = some (vOb x c)) := Lib.hid ((hb.block _ (Array.getElem?_eq_some_iff.1 HX4.out).1).trans HX4.out)
    have HY5 : Hid (w5.heap[w.heap.size + 1]? = some (vOb y d)) := Lib.hid ((hb.block _ (Array.getElem?_eq_some_iff.1 HY4.out).1).trans HY4.out)
    obtain ⟨x50, x51, x52, x53, x54, x55, x56, x57, x58⟩ := vOb_cells HX5.out
    obtain ⟨y50, y51, y52, y53, y54, y55, y56, y57, y58⟩ := vOb_cells HY5.out
    clear hb
    go_wp2_with fail
    refine (C6.out _ HB5.out).mono ?_
    rintro e w6 ⟨rfl, hb⟩
    have HB6 : Hid (Below w.heap.size w w6) := Lib.hid (HB5.out.trans (hb.mono HB5.out.size))
    have HX6 : Hid (w6.heap[w.heap.size]? = some (vOb x c)) := Lib.hid ((hb.block _ (Array.getElem?_eq_some_iff.1 HX5.out).1).trans HX5.out)
    have HY6 : Hid (w6.heap[w.heap.size + 1]? = some (vOb y d)) := Lib.hid ((hb.block _ (Array.getElem?_eq_some_iff.1 HY5.out).1).trans HY5.out)
    obtain ⟨x60, x61, x62, x63, x64, x65, x66, x67, x68⟩ := vOb_cells HX6.out
    obtain ⟨y60, y61, y62, y63, y64, y65, y66, y67, y68⟩ := vOb_cells HY6.out
    clear hb
    go_wp2_with fail
    refine (C7.out _ HB6.out).mono ?_
    rintro e w7 ⟨rfl, hb⟩
    have HB7 : Hid (Below w.heap.size w w7) := Lib.hid (HB6.out.trans (hb.mono HB6.out.size))
    have HX7 : Hid (w7.heap[w.heap.size]? = some (vOb x c)) := Lib.hid ((hb.block _ (Array.getElem?_eq_some_iff.1 HX6.out).1).trans HX6.out)
    have HY7 : Hid (w7.heap[w.heap.size + 1]? = some (vOb y d)) := Lib.hid ((hb.block _ (Array.getElem?_eq_some_iff.1 HY6.out).1).trans HY6.out)
    obtain ⟨x70, x71, x72, x73, x74, x75, x76, x77, x78⟩ := vOb_cells HX7.out
    obtain ⟨y70, y71, y72, y73, y74, y75, y76, y77, y78⟩ := vOb_cells HY7.out
    clear hb
    go_wp2_with fail
    go_ret
    exact ⟨rfl, HB7.out⟩
set_option maxHeartbeats 2000000 in
set_option maxRecDepth 100000 in
set_option linter.unusedVariables false in
theorem samev_9 (x y : Va) (c d : Cl) (w : World) (hx : ValAt w w.heap.size c x) (hy : ValAt w w.heap.size d y) (hB : SaB x) (hD : SaB y) (h1 : x.kind = y.kind) (h2 : x.text = y.text) (h3 : x.list = y.list) (h4 : x.hash = y.hash) (h5 : x.set = y.set) (h6 : x.zset = y.zset) (h7 : x.stream = y.stream) (h8 : (x.ms = y.ms ∧ x.seq = y.seq)) :
    Calls Try.prog 82 #[vV x c, vV y d] w fun e w' => e = .returned (.bool true) ∧ Below w.heap.size w w' := by
  have e1 := beq_cast h1
  have e2 := beq_text h2
  have C3 : Hid (∀ W, Below w.heap.size w W → Calls Try.prog 104 #[c.lv, d.lv] W fun e w' => e = .returned (.bool true) ∧ Below W.heap.size W w') := Lib.hid (fun W hW => (same_texts x.list y.list _ _ W ((hx.list.below hW).more hW.size) ((hy.list.below hW).more hW.size) hB.vab.list).yes h3)
  have C4 : Hid (∀ W, Below w.heap.size w W → Calls Try.prog 105 #[c.hv, d.hv] W fun e w' => e = .returned (.bool true) ∧ Below W.heap.size W w') := Lib.hid (fun W hW => (same_pairs x.hash y.hash _ _ W ((hx.hash.below hW).more hW.size) ((hy.hash.below hW).more hW.size) hB.vab.hash).yes h4)
  have C5 : Hid (∀ W, Below w.heap.size w W → Calls Try.prog 104 #[c.sv, d.sv] W fun e w' => e = .returned (.bool true) ∧ Below W.heap.size W w') := Lib.hid (fun W hW => (same_texts x.set y.set _ _ W ((hx.set.below hW).more hW.size) ((hy.set.below hW).more hW.size) hB.vab.set).yes h5)
  have C6 : Hid (∀ W, Below w.heap.size w W → Calls Try.prog 106 #[c.zv, d.zv] W fun e w' => e = .returned (.bool true) ∧ Below W.heap.size W w') := Lib.hid (fun W hW => (same_scoreds x.zset y.zset _ _ W ((hx.zset.below hW).more hW.size) ((hy.zset.below hW).more hW.size) hB.vab.zset hB.nums hD.nums).yes h6)
  have C7 : Hid (∀ W, Below w.heap.size w W → Calls Try.prog 107 #[c.ev, d.ev] W fun e w' => e = .returned (.bool true) ∧ Below W.heap.size W w') := Lib.hid (fun W hW => (same_entries x.stream y.stream _ _ W ((hx.stream.below hW).more hW.size) ((hy.stream.below hW).more hW.size) hB.vab.stream hB.vab.pairs).yes h7)
  have HB0 : Hid (Below w.heap.size w ((w.alloc (vOb x c)).alloc (vOb y d))) := Lib.hid (((Below.refl _ w).alloc (Nat.le_refl _) _).alloc (by simp) _)
  have HX0 : Hid (((w.alloc (vOb x c)).alloc (vOb y d)).heap[w.heap.size]? = some (vOb x c)) := Lib.hid ((Lib.alloc_old _ _ _ (by simp)).trans (heap_alloc_new w _))
  have HY0 : Hid (((w.alloc (vOb x c)).alloc (vOb y d)).heap[w.heap.size + 1]? = some (vOb y d)) := Lib.hid (by have := heap_alloc_new (w.alloc (vOb x c)) (vOb y d); simpa using this)
  obtain ⟨h8, h9⟩ := h8
  have E8 := Lib.hid (show (x.ms : Int) = (y.ms : Int) by rw [h8])
  have E9 := Lib.hid (show (x.seq : Int) = (y.seq : Int) by rw [h9])
  clear hx hy hB hD h1 h2 h3 h4 h5 h6 h7 h8 h9
  go_enter Try.func82, Try.ntmps82
  go_wp2_with fail
  refine (C3.out _ HB0.out).mono ?_
  rintro e w3 ⟨rfl, hb⟩
  have HB3 : Hid (Below w.heap.size w w3) := Lib.hid (HB0.out.trans (hb.mono HB0.out.size))
  have HX3 : Hid (w3.heap[w.heap.size]? = some (vOb x c)) := Lib.hid ((hb.block _ (Array.getElem?_eq_some_iff.1 HX0.out).1).trans HX0.out)
  have HY3 : Hid (w3.heap[w.heap.size + 1]? = some (vOb y d)) := Lib.hid ((hb.block _ (Array.getElem?_eq_some_iff.1 HY0.out).1).trans HY0.out)
  obtain ⟨x30, x31, x32, x33, x34, x35, x36, x37, x38⟩ := vOb_cells HX3.out
  obtain ⟨y30, y31, y32, y33, y34, y35, y36, y37, y38⟩ := vOb_cells HY3.out
  clear hb
  go_wp2_with fail
  refine (C4.out _ HB3.out).mono ?_
  rintro e w4 ⟨rfl, hb⟩
  have HB4 : Hid (Below w.heap.size w w4) := Lib.hid (HB3.out.trans (hb.mono HB3.out.size))
  have HX4 : Hid (w4.heap[w.heap.size]? = some (vOb x c)) := Lib.hid ((hb.block _ (Array.getElem?_eq_some_iff.1 HX3.out).1).trans HX3.out)
  have HY4 : Hid (w4.heap[w.heap.size + 1]? = some (vOb y d)) := Lib.hid ((hb.block _ (Array.getElem?_eq_some_iff.1 HY3.out).1).trans HY3.out)
  obtain ⟨x40, x41, x42, x43, x44, x45, x46, x47, x48⟩ := vOb_cells HX4.out
  obtain ⟨y40, y41, y42, y43, y44, y45, y46, y47, y48⟩ := vOb_cells HY4.out
  clear hb
  go_wp2_with fail
  refine (C5.out _ HB4.out).mono ?_
  rintro e w5 ⟨rfl, hb⟩
  have HB5 : Hid (Below w.heap.size w w5) := Lib.hid (HB4.out.trans (hb.mono HB4.out.size))
  have HX5 : Hid (w5.heap[w.heap.size]? = some (vOb x c)) := Lib.hid ((hb.block _ (Array.getElem?_eq_some_iff.1 HX4.out).1).trans HX4.out)
  have HY5 : Hid (w5.heap[w.heap.size + 1]? = some (vOb y d)) := Lib.hid ((hb.block _ (Array.getElem?_eq_some_iff.1 HY4.out).1).trans HY4.out)
  obtain ⟨x50, x51, x52, x53, x54, x55, x56, x57, x58⟩ := vOb_cells HX5.out
  obtain ⟨y50, y51, y52, y53, y54, y55, y56, y57, y58⟩ := vOb_cells HY5.out
  clear hb
  go_wp2_with fail
  refine (C6.out _ HB5.out).mono ?_
  rintro e w6 ⟨rfl, hb⟩
  have HB6 : Hid (Below w.heap.size w w6) := Lib.hid (HB5.out.trans (hb.mono HB5.out.size))
  have HX6 : Hid (w6.heap[w.heap.size]? = some (vOb x c)) := Lib.hid ((hb.block _ (Array.getElem?_eq_some_iff.1 HX5.out).1).trans HX5.out)
  have HY6 : Hid (w6.heap[w.heap.size + 1]? = some (vOb y d)) := Lib.hid ((hb.block _ (Array.getElem?_eq_some_iff.1 HY5.out).1).trans HY5.out)
  obtain ⟨x60, x61, x62, x63, x64, x65, x66, x67, x68⟩ := vOb_cells HX6.out
  obtain ⟨y60, y61, y62, y63, y64, y65, y66, y67, y68⟩ := vOb_cells HY6.out
  clear hb
  go_wp2_with fail
  refine (C7.out _ HB6.out).mono ?_
  rintro e w7 ⟨rfl, hb⟩
  have HB7 : Hid (Below w.heap.size w w7) := Lib.hid (HB6.out.trans (hb.mono HB6.out.size))
  have HX7 : Hid (w7.heap[w.heap.size]? = some (vOb x c)) := Lib.hid ((hb.block _ (Array.getElem?_eq_some_iff.1 HX6.out).1).trans HX6.out)
  have HY7 : Hid (w7.heap[w.heap.size + 1]? = some (vOb y d)) := Lib.hid ((hb.block _ (Array.getElem?_eq_some_iff.1 HY6.out).1).trans HY6.out)
  obtain ⟨x70, x71, x72, x73, x74, x75, x76, x77, x78⟩ := vOb_cells HX7.out
  obtain ⟨y70, y71, y72, y73, y74, y75, y76, y77, y78⟩ := vOb_cells HY7.out
  clear hb
  have e8 := E8.out
  have e9 := E9.out
  go_wp2_with fail
  go_ret
  exact ⟨by simp, HB7.out⟩
theorem same_value (x y : Va) (c d : Cl) (w : World) (hx : ValAt w w.heap.size c x) (hy : ValAt w w.heap.size d y) (hB : SaB x) (hD : SaB y) : Asks 82 #[vV x c, vV y d] w (x = y) := by
  unfold Asks
  by_cases h1 : x.kind = y.kind
  rotate_left
  · rw [pb_false (fun e => h1 (by rw [e]))]
    exact samev_1 x y c d w hx hy hB hD h1
  by_cases h2 : x.text = y.text
  rotate_left
  · rw [pb_false (fun e => h2 (by rw [e]))]
    exact samev_2 x y c d w hx hy hB hD h1 h2
  by_cases h3 : x.list = y.list
  rotate_left
  · rw [pb_false (fun e => h3 (by rw [e]))]
    exact samev_3 x y c d w hx hy hB hD h1 h2 h3
  by_cases h4 : x.hash = y.hash
  rotate_left
  · rw [pb_false (fun e => h4 (by rw [e]))]
    exact samev_4 x y c d w hx hy hB hD h1 h2 h3 h4
  by_cases h5 : x.set = y.set
  rotate_left
  · rw [pb_false (fun e => h5 (by rw [e]))]
    exact samev_5 x y c d w hx hy hB hD h1 h2 h3 h4 h5
  by_cases h6 : x.zset = y.zset
  rotate_left
  · rw [pb_false (fun e => h6 (by rw [e]))]
    exact samev_6 x y c d w hx hy hB hD h1 h2 h3 h4 h5 h6
  by_cases h7 : x.stream = y.stream
  rotate_left
  · rw [pb_false (fun e => h7 (by rw [e]))]
    exact samev_7 x y c d w hx hy hB hD h1 h2 h3 h4 h5 h6 h7
  by_cases h8 : (x.ms = y.ms ∧ x.seq = y.seq)
  rotate_left
  · rw [pb_false (fun e => h8 (by rw [e]; exact ⟨rfl, rfl⟩))]
    exact samev_8 x y c d w hx hy hB hD h1 h2 h3 h4 h5 h6 h7 h8
  rw [pb_true (Va.same h1 h2 h3 h4 h5 h6 h7 h8)]
  exact samev_9 x y c d w hx hy hB hD h1 h2 h3 h4 h5 h6 h7 h8
end Go.Proofs.Ytpnmhldaaaemeaa.Snp
