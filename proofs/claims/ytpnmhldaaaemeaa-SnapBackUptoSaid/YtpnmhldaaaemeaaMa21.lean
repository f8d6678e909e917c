import Derived.Test.YtpnmhldaaaemeaaMa20
import Derived.Test.YtpnmhldaaaemeaaMa5
import Derived.Test.YtpnmhldaaaemeaaMa6
import Derived.Test.YtpnmhldaaaemeaaProg
import Derived.WalkKit
import Derived.KernelRfl
import Derived.Lib.Hide
import Derived.Test.YtpnmhldaaaemeaaMa18
/- Chapter 24: are two items, two lists of items the same. Printed by gen_samei24.py. -/
namespace Go.Proofs.Ytpnmhldaaaemeaa.Snp
open Go.RowKit Go.Proofs.Ytpnmhldaaaemeaa.Pin

theorem iOb_cells {W : World} {b : Nat} {it : It} {c : Cl} (h : W.heap[b]? = some (iO it c)) :
    W.cell? ⟨b, 0, none⟩ = some (.int .i64 it.db) ∧ W.cell? ⟨b, 1, none⟩ = some (.string it.key) ∧ W.cell? ⟨b, 2, none⟩ = some (.int .u8 (it.val.kind : Int)) ∧ W.cell? ⟨b, 3, none⟩ = some (.string it.val.text) ∧ W.cell? ⟨b, 4, none⟩ = some (c.lv) ∧ W.cell? ⟨b, 5, none⟩ = some (c.hv) ∧ W.cell? ⟨b, 6, none⟩ = some (c.sv) ∧ W.cell? ⟨b, 7, none⟩ = some (c.zv) ∧ W.cell? ⟨b, 8, none⟩ = some (c.ev) ∧ W.cell? ⟨b, 9, none⟩ = some (.int .u64 (it.val.ms : Int)) ∧ W.cell? ⟨b, 10, none⟩ = some (.int .u64 (it.val.seq : Int)) ∧ W.cell? ⟨b, 11, none⟩ = some (.int .i64 it.dead) := by
  refine ⟨?_, ?_, ?_, ?_, ?_, ?_, ?_, ?_, ?_, ?_, ?_, ?_⟩ <;> (rw [Lib.cell_of_heap h]; rfl)
theorem beq_int {a b : Int} (h : a = b) : (a == b) = true := by subst h; simp
theorem bne_int {a b : Int} (h : a ≠ b) : (a == b) = false := by simp; omega
set_option maxHeartbeats 2000000 in
set_option maxRecDepth 100000 in
set_option linter.unusedVariables false in
theorem samei_1 (x y : It) (c d : Cl) (w : World) (hx : ValAt w w.heap.size c x.val) (hy : ValAt w w.heap.size d y.val) (hB : SaB x.val) (hD : SaB y.val)  (h1 : ¬ x.db = y.db) :
    Calls Try.prog 29 #[iV x c, iV y d] w fun e w' => e = .returned (.bool false) ∧ Below w.heap.size w w' := by
  have e1 := bne_int h1
  have HB0 : Hid (Below w.heap.size w ((w.alloc (iO x c)).alloc (iO y d))) := Lib.hid (((Below.refl _ w).alloc (Nat.le_refl _) _).alloc (by simp) _)
  have HX0 : Hid (((w.alloc (iO x c)).alloc (iO y d)).heap[w.heap.size]? = some (iO x c)) := Lib.hid ((Lib.alloc_old _ _ _ (by simp)).trans (heap_alloc_new w _))
  have HY0 : Hid (((w.alloc (iO x c)).alloc (iO y d)).heap[w.heap.size + 1]? = some (iO y d)) := Lib.hid (by have := heap_alloc_new (w.alloc (iO x c)) (iO y d); simpa using this)
  clear hx hy hB hD h1
  go_enter Try.func29, Try.ntmps29
  go_wp2_with fail
  go_ret
  exact ⟨rfl, HB0.out⟩
set_option maxHeartbeats 2000000 in
set_option maxRecDepth 100000 in
set_option linter.unusedVariables false in
theorem samei_2 (x y : It) (c d : Cl) (w : World) (hx : ValAt w w.heap.size c x.val) (hy : ValAt w w.heap.size d y.val) (hB : SaB x.val) (hD : SaB y.val) (h1 : x.db = y.db) (h2 : ¬ x.key = y.key) :
    Calls Try.prog 29 #[iV x c, iV y d] w fun e w' => e = .returned (.bool false) ∧ Below w.heap.size w w' := by
  have e1 := beq_int h1
  have e2 := bne_text h2
  have HB0 : Hid (Below w.heap.size w ((w.alloc (iO x c)).alloc (iO y d))) := Lib.hid (((Below.refl _ w).alloc (Nat.le_refl _) _).alloc (by simp) _)
  have HX0 : Hid (((w.alloc (iO x c)).alloc (iO y d)).heap[w.heap.size]? = some (iO x c)) := Lib.hid ((Lib.alloc_old _ _ _ (by simp)).trans (heap_alloc_new w _))
  have HY0 : Hid (((w.alloc (iO x c)).alloc (iO y d)).heap[w.heap.size + 1]? = some (iO y d)) := Lib.hid (by have := heap_alloc_new (w.alloc (iO x c)) (iO y d); simpa using this)
  clear hx hy hB hD h1 h2
  go_enter Try.func29, Try.ntmps29
  go_wp2_with fail
  go_ret
  exact ⟨rfl, HB0.out⟩
set_option maxHeartbeats 2000000 in
set_option maxRecDepth 100000 in
set_option linter.unusedVariables false in
theorem samei_3 (x y : It) (c d : Cl) (w : World) (hx : ValAt w w.heap.size c x.val) (hy : ValAt w w.heap.size d y.val) (hB : SaB x.val) (hD : SaB y.val) (h1 : x.db = y.db) (h2 : x.key = y.key) (h3 : ¬ x.val = y.val) :
    Calls Try.prog 29 #[iV x c, iV y d] w fun e w' => e = .returned (.bool false) ∧ Below w.heap.size w w' := by
  have e1 := beq_int h1
  have e2 := beq_text h2
  have C3 : Hid (∀ W, Below w.heap.size w W → Calls Try.prog 82 #[vV x.val c, vV y.val d] W fun e w' => e = .returned (.bool false) ∧ Below W.heap.size W w') := Lib.hid (fun W hW => (same_value x.val y.val c d W ((hx.below hW).more hW.size) ((hy.below hW).more hW.size) hB hD).no h3)
  have HB0 : Hid (Below w.heap.size w ((w.alloc (iO x c)).alloc (iO y d))) := Lib.hid (((Below.refl _ w).alloc (Nat.le_refl _) _).alloc (by simp) _)
  have HX0 : Hid (((w.alloc (iO x c)).alloc (iO y d)).heap[w.heap.size]? = some (iO x c)) := Lib.hid ((Lib.alloc_old _ _ _ (by simp)).trans (heap_alloc_new w _))
  have HY0 : Hid (((w.alloc (iO x c)).alloc (iO y d)).heap[w.heap.size + 1]? = some (iO y d)) := Lib.hid (by have := heap_alloc_new (w.alloc (iO x c)) (iO y d); simpa using this)
  clear hx hy hB hD h1 h2 h3
  go_enter Try.func29, Try.ntmps29
  go_wp2_with fail
  refine (C3.out _ HB0.out).mono ?_
  rintro e w3 ⟨rfl, hb⟩
  have HB3 : Hid (Below w.heap.size w w3) := Lib.hid (HB0.out.trans (hb.mono HB0.out.size))
  have HX3 : Hid (w3.heap[w.heap.size]? = some (iO x c)) := Lib.hid ((hb.block _ (Array.getElem?_eq_some_iff.1 HX0.out).1).trans HX0.out)
  have HY3 : Hid (w3.heap[w.heap.size + 1]? = some (iO y d)) := Lib.hid ((hb.block _ (Array.getElem?_eq_some_iff.1 HY0.out).1).trans HY0.out)
  obtain ⟨_, _, _, _, _, _, _, _, _, _, _, x11⟩ := iOb_cells HX3.out
  obtain ⟨_, _, _, _, _, _, _, _, _, _, _, y11⟩ := iOb_cells HY3.out
  clear hb
  go_wp2_with fail
  go_ret
  exact ⟨rfl, HB3.out⟩
set_option maxHeartbeats 2000000 in
set_option maxRecDepth 100000 in
set_option linter.unusedVariables false in
theorem samei_4 (x y : It) (c d : Cl) (w : World) (hx : ValAt w w.heap.size c x.val) (hy : ValAt w w.heap.size d y.val) (hB : SaB x.val) (hD : SaB y.val) (h1 : x.db = y.db) (h2 : x.key = y.key) (h3 : x.val = y.val) (h4 : ¬ x.dead = y.dead) :
    Calls Try.prog 29 #[iV x c, iV y d] w fun e w' => e = .returned (.bool false) ∧ Below w.heap.size w w' := by
  have e1 := beq_int h1
  have e2 := beq_text h2
  have C3 : Hid (∀ W, Below w.heap.size w W → Calls Try.prog 82 #[vV x.val c, vV y.val d] W fun e w' => e = .returned (.bool true) ∧ Below W.heap.size W w') := Lib.hid (fun W hW => (same_value x.val y.val c d W ((hx.below hW).more hW.size) ((hy.below hW).more hW.size) hB hD).yes h3)
  have e4 := bne_int h4
  have HB0 : Hid (Below w.heap.size w ((w.alloc (iO x c)).alloc (iO y d))) := Lib.hid (((Below.refl _ w).alloc (Nat.le_refl _) _).alloc (by simp) _)
  have HX0 : Hid (((w.alloc (iO x c)).alloc (iO y d)).heap[w.heap.size]? = some (iO x c)) := Lib.hid ((Lib.alloc_old _ _ _ (by simp)).trans (heap_alloc_new w _))
  have HY0 : Hid (((w.alloc (iO x c)).alloc (iO y d)).heap[w.heap.size + 1]? = some (iO y d)) := Lib.hid (by have := heap_alloc_new (w.alloc (iO x c)) (iO y d); simpa using this)
  clear hx hy hB hD h1 h2 h3 h4
  go_enter Try.func29, Try.ntmps29
  go_wp2_with fail
  refine (C3.out _ HB0.out).mono ?_
  rintro e w3 ⟨rfl, hb⟩
  have HB3 : Hid (Below w.heap.size w w3) := Lib.hid (HB0.out.trans (hb.mono HB0.out.size))
  have HX3 : Hid (w3.heap[w.heap.size]? = some (iO x c)) := Lib.hid ((hb.block _ (Array.getElem?_eq_some_iff.1 HX0.out).1).trans HX0.out)
  have HY3 : Hid (w3.heap[w.heap.size + 1]? = some (iO y d)) := Lib.hid ((hb.block _ (Array.getElem?_eq_some_iff.1 HY0.out).1).trans HY0.out)
  obtain ⟨_, _, _, _, _, _, _, _, _, _, _, x11⟩ := iOb_cells HX3.out
  obtain ⟨_, _, _, _, _, _, _, _, _, _, _, y11⟩ := iOb_cells HY3.out
  clear hb
  go_wp2_with fail
  go_ret
  exact ⟨rfl, HB3.out⟩
set_option maxHeartbeats 2000000 in
set_option maxRecDepth 100000 in
set_option linter.unusedVariables false in
theorem samei_5 (x y : It) (c d : Cl) (w : World) (hx : ValAt w w.heap.size c x.val) (hy : ValAt w w.heap.size d y.val) (hB : SaB x.val) (hD : SaB y.val) (h1 : x.db = y.db) (h2 : x.key = y.key) (h3 : x.val = y.val) (h4 : x.dead = y.dead) :
    Calls Try.prog 29 #[iV x c, iV y d] w fun e w' => e = .returned (.bool true) ∧ Below w.heap.size w w' := by
  have e1 := beq_int h1
  have e2 := beq_text h2
  have C3 : Hid (∀ W, Below w.heap.size w W → Calls Try.prog 82 #[vV x.val c, vV y.val d] W fun e w' => e = .returned (.bool true) ∧ Below W.heap.size W w') := Lib.hid (fun W hW => (same_value x.val y.val c d W ((hx.below hW).more hW.size) ((hy.below hW).more hW.size) hB hD).yes h3)
  have e4 := beq_int h4
  have HB0 : Hid (Below w.heap.size w ((w.alloc (iO x c)).alloc (iO y d))) := Lib.hid (((Below.refl _ w).alloc (Nat.le_refl _) _).alloc (by simp) _)
  have HX0 : Hid (((w.alloc (iO x c)).alloc (iO y d)).heap[w.heap.size]? = some (iO x c)) := Lib.hid ((Lib.alloc_old _ _ _ (by simp)).trans (heap_alloc_new w _))
  have HY0 : Hid (((w.alloc (iO x c)).alloc (iO y d)).heap[w.heap.size + 1]? = some (iO y d)) := Lib.hid (by have := heap_alloc_new (w.alloc (iO x c)) (iO y d); simpa using this)
  clear hx hy hB hD h1 h2 h3 h4
  go_enter Try.func29, Try.ntmps29
  go_wp2_with fail
  refine (C3.out _ HB0.out).mono ?_
  rintro e w3 ⟨rfl, hb⟩
  have HB3 : Hid (Below w.heap.size w w3) := Lib.hid (HB0.out.trans (hb.mono HB0.out.size))
  have HX3 : Hid (w3.heap[w.heap.size]? = some (iO x c)) := Lib.hid ((hb.block _ (Array.getElem?_eq_some_iff.1 HX0.out).1).trans HX0.out)
  have HY3 : Hid (w3.heap[w.heap.size + 1]? = some (iO y d)) := Lib.hid ((hb.block _ (Array.getElem?_eq_some_iff.1 HY0.out).1).trans HY0.out)
  obtain ⟨_, _, _, _, _, _, _, _, _, _, _, x11⟩ := iOb_cells HX3.out
  obtain ⟨_, _, _, _, _, _, _, _, _, _, _, y11⟩ := iOb_cells HY3.out
  clear hb
  go_wp2_with fail
  go_ret
  exact ⟨by simp, HB3.out⟩
theorem same_item (x y : It) (c d : Cl) (w : World) (hx : ValAt w w.heap.size c x.val) (hy : ValAt w w.heap.size d y.val) (hB : SaB x.val) (hD : SaB y.val) : Asks 29 #[iV x c, iV y d] w (x = y) := by
  unfold Asks
  by_cases h1 : x.db = y.db
  rotate_left
  · rw [pb_false (fun e => h1 (by rw [e]))]
    exact samei_1 x y c d w hx hy hB hD h1
  by_cases h2 : x.key = y.key
  rotate_left
  · rw [pb_false (fun e => h2 (by rw [e]))]
    exact samei_2 x y c d w hx hy hB hD h1 h2
  by_cases h3 : x.val = y.val
  rotate_left
  · rw [pb_false (fun e => h3 (by rw [e]))]
    exact samei_3 x y c d w hx hy hB hD h1 h2 h3
  by_cases h4 : x.dead = y.dead
  rotate_left
  · rw [pb_false (fun e => h4 (by rw [e]))]
    exact samei_4 x y c d w hx hy hB hD h1 h2 h3 h4
  rw [pb_true (It.same h1 h2 h3 h4)]
  exact samei_5 x y c d w hx hy hB hD h1 h2 h3 h4
set_option maxHeartbeats 2000000 in
set_option maxRecDepth 100000 in
theorem same_items (l m : List It) (v u : Value) (w : World) (hT : ItemsAt w w.heap.size v l) (hU : ItemsAt w w.heap.size u m) (hl : l.length ≤ 140737488351232) (hp : ∀ z ∈ l, SaB z.val) (hq : ∀ z ∈ m, SaB z.val) :
    Asks 15 #[v, u] w (l = m) := by
  obtain ⟨A, c, rfl, hT⟩ := hT
  obtain ⟨E, d, rfl, hU⟩ := hU
  unfold Asks
  by_cases hlm : l.length = m.length
  · obtain ⟨L, hL⟩ : ∃ L, L = l.length := ⟨_, rfl⟩
    have HL := Lib.hid hL
    have HM := Lib.hid (hL.trans hlm)
    rw [← hlm, ← hL]
    rw [← hL] at hl
    have HT := Lib.hid hT
    have HU := Lib.hid hU
    clear hL hT hU hlm
    have HFF := Lib.hid hp
    have HGG := Lib.hid hq
    clear hp hq
    go_enter Try.func15, Try.ntmps15
    go_wp2_with fail
    go_loopw [5] (fun i wr => ∃ k : Nat, k ≤ L ∧ i = .int .i64 k ∧ Hid (∀ j, j < k → l[j]? = m[j]?) ∧ Hid (Below w.heap.size w wr)) (fun i _ => L - (intOf i).toNat)
    case atStart => exact ⟨0, Nat.zero_le _, rfl, Lib.hid (fun j h => absurd h (Nat.not_lt_zero _)), Lib.hid (Below.refl _ _)⟩
    case round =>
      obtain ⟨k, hk, rfl, HE, HB⟩ := hrel
      by_cases hlt : (k : Int) < (L : Int)
      · have hkl : k < l.length := by have := HL.out; omega
        have hkm : k < m.length := by have := HM.out; omega
        obtain ⟨r, o, rfl, hr, hc⟩ := HT.out (by omega)
        obtain ⟨p, q, rfl, hp, hd⟩ := HU.out (by omega)
        obtain ⟨x, hx⟩ : ∃ x, x = l[k] := ⟨_, rfl⟩
        obtain ⟨y, hy⟩ : ∃ y, y = m[k] := ⟨_, rfl⟩
        have HX := Lib.hid hx
        have HY := Lib.hid hy
        have hck := hc k hkl
        have hdk := hd k hkm
        rw [← hx] at hck
        rw [← hy] at hdk
        have HXY : Hid (x ≠ y → l ≠ m) := Lib.hid (fun h e => h (by subst e; rw [HX.out, HY.out]))
        have HST : Hid (x = y → ∀ j, j < k + 1 → l[j]? = m[j]?) := Lib.hid (fun h j hj => by
          rcases Nat.lt_or_ge j k with h' | h'
          · exact HE.out j h'
          · obtain rfl : j = k := by omega
            rw [List.getElem?_eq_getElem hkl, List.getElem?_eq_getElem hkm, ← HX.out, ← HY.out, h])
        obtain ⟨xc, xa, xv⟩ := hck
        have xV := Lib.hid ((xv.below HB.out).more HB.out.size)
        have x0 : wr.cell? ⟨r, o + k * 12, none⟩ = some (.int .i64 x.db) := (HB.out.cell (p := ⟨r, _, none⟩) hr).trans (xa 0 _ rfl)
        have x1 : wr.cell? ⟨r, o + k * 12 + 1, none⟩ = some (.string x.key) := (HB.out.cell (p := ⟨r, _, none⟩) hr).trans (xa 1 _ rfl)
        have x2 : wr.cell? ⟨r, o + k * 12 + 2, none⟩ = some (.int .u8 (x.val.kind : Int)) := (HB.out.cell (p := ⟨r, _, none⟩) hr).trans (xa 2 _ rfl)
        have x3 : wr.cell? ⟨r, o + k * 12 + 3, none⟩ = some (.string x.val.text) := (HB.out.cell (p := ⟨r, _, none⟩) hr).trans (xa 3 _ rfl)
        have x4 : wr.cell? ⟨r, o + k * 12 + 4, none⟩ = some (xc.lv) := (HB.out.cell (p := ⟨r, _, none⟩) hr).trans (xa 4 _ rfl)
        have x5 : wr.cell? ⟨r, o + k * 12 + 5, none⟩ = some (xc.hv) := (HB.out.cell (p := ⟨r, _, none⟩) hr).trans (xa 5 _ rfl)
        have x6 : wr.cell? ⟨r, o + k * 12 + 6, none⟩ = some (xc.sv) := (HB.out.cell (p := ⟨r, _, none⟩) hr).trans (xa 6 _ rfl)
        have x7 : wr.cell? ⟨r, o + k * 12 + 7, none⟩ = some (xc.zv) := (HB.out.cell (p := ⟨r, _, none⟩) hr).trans (xa 7 _ rfl)
        have x8 : wr.cell? ⟨r, o + k * 12 + 8, none⟩ = some (xc.ev) := (HB.out.cell (p := ⟨r, _, none⟩) hr).trans (xa 8 _ rfl)
        have x9 : wr.cell? ⟨r, o + k * 12 + 9, none⟩ = some (.int .u64 (x.val.ms : Int)) := (HB.out.cell (p := ⟨r, _, none⟩) hr).trans (xa 9 _ rfl)
        have x10 : wr.cell? ⟨r, o + k * 12 + 10, none⟩ = some (.int .u64 (x.val.seq : Int)) := (HB.out.cell (p := ⟨r, _, none⟩) hr).trans (xa 10 _ rfl)
        have x11 : wr.cell? ⟨r, o + k * 12 + 11, none⟩ = some (.int .i64 x.dead) := (HB.out.cell (p := ⟨r, _, none⟩) hr).trans (xa 11 _ rfl)
        clear xa xv
        obtain ⟨yc, ya, yv⟩ := hdk
        have yV := Lib.hid ((yv.below HB.out).more HB.out.size)
        have y0 : wr.cell? ⟨p, q + k * 12, none⟩ = some (.int .i64 y.db) := (HB.out.cell (p := ⟨p, _, none⟩) hp).trans (ya 0 _ rfl)
        have y1 : wr.cell? ⟨p, q + k * 12 + 1, none⟩ = some (.string y.key) := (HB.out.cell (p := ⟨p, _, none⟩) hp).trans (ya 1 _ rfl)
        have y2 : wr.cell? ⟨p, q + k * 12 + 2, none⟩ = some (.int .u8 (y.val.kind : Int)) := (HB.out.cell (p := ⟨p, _, none⟩) hp).trans (ya 2 _ rfl)
        have y3 : wr.cell? ⟨p, q + k * 12 + 3, none⟩ = some (.string y.val.text) := (HB.out.cell (p := ⟨p, _, none⟩) hp).trans (ya 3 _ rfl)
        have y4 : wr.cell? ⟨p, q + k * 12 + 4, none⟩ = some (yc.lv) := (HB.out.cell (p := ⟨p, _, none⟩) hp).trans (ya 4 _ rfl)
        have y5 : wr.cell? ⟨p, q + k * 12 + 5, none⟩ = some (yc.hv) := (HB.out.cell (p := ⟨p, _, none⟩) hp).trans (ya 5 _ rfl)
        have y6 : wr.cell? ⟨p, q + k * 12 + 6, none⟩ = some (yc.sv) := (HB.out.cell (p := ⟨p, _, none⟩) hp).trans (ya 6 _ rfl)
        have y7 : wr.cell? ⟨p, q + k * 12 + 7, none⟩ = some (yc.zv) := (HB.out.cell (p := ⟨p, _, none⟩) hp).trans (ya 7 _ rfl)
        have y8 : wr.cell? ⟨p, q + k * 12 + 8, none⟩ = some (yc.ev) := (HB.out.cell (p := ⟨p, _, none⟩) hp).trans (ya 8 _ rfl)
        have y9 : wr.cell? ⟨p, q + k * 12 + 9, none⟩ = some (.int .u64 (y.val.ms : Int)) := (HB.out.cell (p := ⟨p, _, none⟩) hp).trans (ya 9 _ rfl)
        have y10 : wr.cell? ⟨p, q + k * 12 + 10, none⟩ = some (.int .u64 (y.val.seq : Int)) := (HB.out.cell (p := ⟨p, _, none⟩) hp).trans (ya 10 _ rfl)
        have y11 : wr.cell? ⟨p, q + k * 12 + 11, none⟩ = some (.int .i64 y.dead) := (HB.out.cell (p := ⟨p, _, none⟩) hp).trans (ya 11 _ rfl)
        clear ya yv
        have HC := Lib.hid (fun n => same_item x y xc yc (wr.drewN n) (xV.out.below (below_drewN (Below.refl _ _) n)) (yV.out.below (below_drewN (Below.refl _ _) n)) (by rw [hx]; exact HFF.out _ (List.getElem_mem hkl)) (by rw [hy]; exact HGG.out _ (List.getElem_mem hkm)))
        clear hx hy hc hd
        by_cases hxy : x = y
        · have HS := Lib.hid (HST.out hxy)
          have HXX := Lib.hid hxy
          clear hxy
          go_wp2_with fail
          refine wp_region_q [0,0,0,1,0,0,0,1,2,0] (by kernel_rfl) (by kernel_rfl) ?_
          (refine q_pure_n rfl (fun K hK => ?_); go_simp; refine hK _ _ ?_; clear hK K)
          (refine q_pure_n rfl (fun K hK => ?_); go_simp; refine hK _ _ ?_; clear hK K)
          (refine q_pure_n rfl (fun K hK => ?_); go_simp; refine hK _ _ ?_; clear hK K)
          (refine q_read_n rfl (fun K hK => ?_); go_simp; refine hK _ _ ?_; clear hK K)
          (refine q_pure_n rfl (fun K hK => ?_); go_simp; refine hK _ _ ?_; clear hK K)
          (refine q_pure_n rfl (fun K hK => ?_); go_simp; refine hK _ _ ?_; clear hK K)
          (refine q_pure_n rfl (fun K hK => ?_); go_simp; refine hK _ _ ?_; clear hK K)
          (refine q_read_n rfl (fun K hK => ?_); go_simp; refine hK _ _ ?_; clear hK K)
          (refine q_write_n rfl (fun K hK => ?_); go_simp; intro nw; refine ((HC.out _).yes HXX.out).mono ?_; rintro e w3 ⟨rfl, hb3⟩; obtain ⟨w3, rfl⟩ : ∃ w5, w3 = World.drewN w5 0 := ⟨w3, rfl⟩; have HB3 : Hid (Below w.heap.size w w3) := Lib.hid ((below_drewN HB.out _).trans (hb3.mono HB.out.size)); clear hb3; refine ⟨_, rfl, _, ⟨_, rfl⟩, hK _ _ ?_⟩; clear hK K)
          (refine q_pure_n rfl (fun K hK => ?_); go_simp; refine hK _ _ ?_; clear hK K)
          refine q_nil ?_
          intro nq
          go_wp2_with fail
          exact ⟨⟨k + 1, by omega, by go_num, HS, Lib.hid (below_drewN HB3.out _)⟩, by simp [intOf]; omega⟩
        · have HN := Lib.hid (HXY.out hxy)
          have HXX := Lib.hid hxy
          clear hxy
          go_wp2_with fail
          refine wp_region_q [0,0,0,1,0,0,0,1,2,0] (by kernel_rfl) (by kernel_rfl) ?_
          (refine q_pure_n rfl (fun K hK => ?_); go_simp; refine hK _ _ ?_; clear hK K)
          (refine q_pure_n rfl (fun K hK => ?_); go_simp; refine hK _ _ ?_; clear hK K)
          (refine q_pure_n rfl (fun K hK => ?_); go_simp; refine hK _ _ ?_; clear hK K)
          (refine q_read_n rfl (fun K hK => ?_); go_simp; refine hK _ _ ?_; clear hK K)
          (refine q_pure_n rfl (fun K hK => ?_); go_simp; refine hK _ _ ?_; clear hK K)
          (refine q_pure_n rfl (fun K hK => ?_); go_simp; refine hK _ _ ?_; clear hK K)
          (refine q_pure_n rfl (fun K hK => ?_); go_simp; refine hK _ _ ?_; clear hK K)
          (refine q_read_n rfl (fun K hK => ?_); go_simp; refine hK _ _ ?_; clear hK K)
          (refine q_write_n rfl (fun K hK => ?_); go_simp; intro nw; refine ((HC.out _).no HXX.out).mono ?_; rintro e w3 ⟨rfl, hb3⟩; obtain ⟨w3, rfl⟩ : ∃ w5, w3 = World.drewN w5 0 := ⟨w3, rfl⟩; have HB3 : Hid (Below w.heap.size w w3) := Lib.hid ((below_drewN HB.out _).trans (hb3.mono HB.out.size)); clear hb3; refine ⟨_, rfl, _, ⟨_, rfl⟩, hK _ _ ?_⟩; clear hK K)
          (refine q_pure_n rfl (fun K hK => ?_); go_simp; refine hK _ _ ?_; clear hK K)
          refine q_nil ?_
          intro nq
          go_wp2_with fail
          go_ret
          exact ⟨by rw [pb_false HN.out]; rfl, below_drewN HB3.out _⟩
      · have hkL : k = L := by omega
        have HK := Lib.hid hkL
        clear hkL
        go_wp2_with fail
        go_ret
        refine ⟨?_, HB.out⟩
        rw [pb_true (List.ext_getElem? fun j => by
          by_cases hj : j < L
          · exact HE.out j (by have := HK.out; omega)
          · rw [List.getElem?_eq_none (by have := HL.out; omega), List.getElem?_eq_none (by have := HM.out; omega)])]
        rfl
  · have hlm' : ¬ ((l.length : Int) = (m.length : Int)) := by omega
    have HN : Hid (l ≠ m) := Lib.hid (fun e => hlm (by rw [e]))
    clear hT hU
    go_enter Try.func15, Try.ntmps15
    go_wp2_with fail
    go_ret
    exact ⟨by rw [pb_false HN.out]; rfl, Below.refl _ _⟩
end Go.Proofs.Ytpnmhldaaaemeaa.Snp
/- Chapter 24: how much a thing has in it. Printed by gen_size24.py. -/
namespace Go.Proofs.Ytpnmhldaaaemeaa.Snp
open Go.RowKit Go.Proofs.Ytpnmhldaaaemeaa.Pin

/-- how many, and how much each has -/
def szBy {α : Type} (f : α → Nat) (l : List α) : Nat := l.length + (l.map f).sum
def szTo {α : Type} (f : α → Nat) (l : List α) (k : Nat) : Nat := l.length + ((l.take k).map f).sum
theorem szto_zero {α : Type} (f : α → Nat) (l : List α) : szTo f l 0 = l.length := by simp [szTo]
theorem szto_succ {α : Type} (f : α → Nat) (l : List α) {k : Nat} (h : k < l.length) : szTo f l (k + 1) = szTo f l k + f l[k] := by
  unfold szTo
  rw [List.take_succ_eq_append_getElem h]
  simp only [List.map_append, List.sum_append, List.map_cons, List.map_nil, List.sum_cons, List.sum_nil]
  omega
theorem szto_all {α : Type} (f : α → Nat) (l : List α) : szTo f l l.length = szBy f l := by simp [szTo, szBy]
/-- a call that tells a size: exactly, unless it is too much -/
abbrev Sized (f : FuncId) (args : Array Value) (w : World) (B s : Nat) : Prop := Calls Try.prog f args w fun e w' => ∃ n : Nat, e = .returned (.int .i64 (n : Int)) ∧ n ≤ B ∧ (n ≤ 1048576 → n = s) ∧ Below w.heap.size w w'
def szPr (p : Pr) : Nat := p.1.size + p.2.size
set_option maxHeartbeats 2000000 in
set_option maxRecDepth 100000 in
theorem sz_texts (l : List ByteArray) (v : Value) (w : World) (hT : TextsAt w w.heap.size v l) (hl : l.length ≤ 140737488351232) (hs : ∀ t ∈ l, t.size ≤ 140737488351232) : Sized 31 #[v] w 281474976710656 (szBy (fun s => s.size) l) := by
  obtain ⟨A, c, rfl, hT⟩ := hT
  unfold Sized
  obtain ⟨L, hL⟩ : ∃ L, L = l.length := ⟨_, rfl⟩
  rw [← hL] at hl ⊢
  have HL := Lib.hid hL
  have HT := Lib.hid hT
  have HS := Lib.hid hs
  clear hL hT hs
  go_enter Try.func31, Try.ntmps31
  go_wp2_with fail
  go_loopw [3, 4] (fun v i wr => ∃ (k n : Nat), k ≤ L ∧ i = .int .i64 k ∧ v = .int .i64 (n : Int) ∧ n ≤ 281474976710656 ∧ Hid (n ≤ 1048576 → n = szTo (fun s => s.size) l k) ∧ Hid (Below w.heap.size w wr)) (fun _ i _ => L - (intOf i).toNat)
  case atStart => exact ⟨0, L, by omega, rfl, rfl, by omega, Lib.hid (fun _ => by rw [szto_zero]; exact HL.out), Lib.hid (Below.refl _ _)⟩
  case round =>
    obtain ⟨k, n, hk, rfl, rfl, hn, HN, HB⟩ := hrel
    by_cases hlt : k < L
    · have hlt' : (k : Int) < (L : Int) := by omega
      by_cases hm : n ≤ 1048576
      · have hm' : (n : Int) ≤ 1048576 := by omega
        have hks : k < l.length := by rw [← HL.out]; exact hlt
        obtain ⟨r, o, rfl, hr, hc⟩ := HT.out (by have := HL.out; omega)
        have hsx := HS.out _ (List.getElem_mem hks)
        obtain ⟨x, hx⟩ : ∃ x, x = l[k] := ⟨_, rfl⟩
        have g := (HB.out.cell (p := ⟨r, _, none⟩) hr).trans (hc k hks)
        rw [← hx] at g hsx
        have HX := Lib.hid hx
        clear hx hc
        go_wp2_with fail
        refine ⟨⟨k + 1, n + x.size, by omega, by go_num, by go_num, by omega, Lib.hid (fun h => ?_), HB⟩, by simp [intOf]; omega⟩
        rw [szto_succ _ _ hks, ← HX.out, ← HN.out hm]
      · have hm' : ¬ (n : Int) ≤ 1048576 := by omega
        go_wp2_with fail
        go_ret
        exact ⟨n, rfl, hn, fun h => absurd h hm, HB.out⟩
    · have hlt' : ¬ ((k : Int) < (L : Int)) := by omega
      obtain rfl : k = L := by omega
      go_wp2_with fail
      go_ret
      refine ⟨n, rfl, hn, fun h => ?_, HB.out⟩
      rw [HN.out h, HL.out, szto_all]
set_option maxHeartbeats 2000000 in
set_option maxRecDepth 100000 in
theorem sz_scoreds (l : List Sc) (v : Value) (w : World) (hT : ScoredsAt w w.heap.size v l) (hl : l.length ≤ 140737488351232) (hs : ∀ t ∈ l, t.1.size ≤ 140737488351232) : Sized 33 #[v] w 281474976710656 (szBy (fun s => s.1.size) l) := by
  obtain ⟨A, c, rfl, hT⟩ := hT
  unfold Sized
  obtain ⟨L, hL⟩ : ∃ L, L = l.length := ⟨_, rfl⟩
  rw [← hL] at hl ⊢
  have HL := Lib.hid hL
  have HT := Lib.hid hT
  have HS := Lib.hid hs
  clear hL hT hs
  go_enter Try.func33, Try.ntmps33
  go_wp2_with fail
  go_loopw [3, 4] (fun v i wr => ∃ (k n : Nat), k ≤ L ∧ i = .int .i64 k ∧ v = .int .i64 (n : Int) ∧ n ≤ 281474976710656 ∧ Hid (n ≤ 1048576 → n = szTo (fun s => s.1.size) l k) ∧ Hid (Below w.heap.size w wr)) (fun _ i _ => L - (intOf i).toNat)
  case atStart => exact ⟨0, L, by omega, rfl, rfl, by omega, Lib.hid (fun _ => by rw [szto_zero]; exact HL.out), Lib.hid (Below.refl _ _)⟩
  case round =>
    obtain ⟨k, n, hk, rfl, rfl, hn, HN, HB⟩ := hrel
    by_cases hlt : k < L
    · have hlt' : (k : Int) < (L : Int) := by omega
      by_cases hm : n ≤ 1048576
      · have hm' : (n : Int) ≤ 1048576 := by omega
        have hks : k < l.length := by rw [← HL.out]; exact hlt
        obtain ⟨r, o, rfl, hr, hc⟩ := HT.out (by have := HL.out; omega)
        have hsx := HS.out _ (List.getElem_mem hks)
        obtain ⟨x, hx⟩ : ∃ x, x = l[k] := ⟨_, rfl⟩
        have g := (HB.out.cell (p := ⟨r, _, none⟩) hr).trans (hc k hks).1
        rw [← hx] at g hsx
        have HX := Lib.hid hx
        clear hx hc
        go_wp2_with fail
        refine ⟨⟨k + 1, n + x.1.size, by omega, by go_num, by go_num, by omega, Lib.hid (fun h => ?_), HB⟩, by simp [intOf]; omega⟩
        rw [szto_succ _ _ hks, ← HX.out, ← HN.out hm]
      · have hm' : ¬ (n : Int) ≤ 1048576 := by omega
        go_wp2_with fail
        go_ret
        exact ⟨n, rfl, hn, fun h => absurd h hm, HB.out⟩
    · have hlt' : ¬ ((k : Int) < (L : Int)) := by omega
      obtain rfl : k = L := by omega
      go_wp2_with fail
      go_ret
      refine ⟨n, rfl, hn, fun h => ?_, HB.out⟩
      rw [HN.out h, HL.out, szto_all]
set_option maxHeartbeats 2000000 in
set_option maxRecDepth 100000 in
theorem sz_pairs (l : List Pr) (v : Value) (w : World) (hT : PairsAt w w.heap.size v l) (hl : l.length ≤ 140737488351232) (hs : ∀ t ∈ l, t.1.size ≤ 140737488351232 ∧ t.2.size ≤ 140737488351232) : Sized 32 #[v] w 562949953421312 (szBy szPr l) := by
  obtain ⟨A, c, rfl, hT⟩ := hT
  unfold Sized
  obtain ⟨L, hL⟩ : ∃ L, L = l.length := ⟨_, rfl⟩
  rw [← hL] at hl ⊢
  have HL := Lib.hid hL
  have HT := Lib.hid hT
  have HS := Lib.hid hs
  clear hL hT hs
  go_enter Try.func32, Try.ntmps32
  go_wp2_with fail
  go_loopw [3, 4] (fun v i wr => ∃ (k n : Nat), k ≤ L ∧ i = .int .i64 k ∧ v = .int .i64 (n : Int) ∧ n ≤ 562949953421312 ∧ Hid (n ≤ 1048576 → n = szTo szPr l k) ∧ Hid (Below w.heap.size w wr)) (fun _ i _ => L - (intOf i).toNat)
  case atStart => exact ⟨0, L, by omega, rfl, rfl, by omega, Lib.hid (fun _ => by rw [szto_zero]; exact HL.out), Lib.hid (Below.refl _ _)⟩
  case round =>
    obtain ⟨k, n, hk, rfl, rfl, hn, HN, HB⟩ := hrel
    by_cases hlt : k < L
    · have hlt' : (k : Int) < (L : Int) := by omega
      by_cases hm : n ≤ 1048576
      · have hm' : (n : Int) ≤ 1048576 := by omega
        have hks : k < l.length := by rw [← HL.out]; exact hlt
        obtain ⟨r, o, rfl, hr, hc⟩ := HT.out (by have := HL.out; omega)
        have hsx := HS.out _ (List.getElem_mem hks)
        obtain ⟨x, hx⟩ : ∃ x, x = l[k] := ⟨_, rfl⟩
        have g := (HB.out.cell (p := ⟨r, _, none⟩) hr).trans (hc k hks).1
        have g2 := (HB.out.cell (p := ⟨r, _, none⟩) hr).trans (hc k hks).2
        rw [← hx] at g g2 hsx
        obtain ⟨hs1, hs2⟩ := hsx
        obtain ⟨m1, hm1⟩ : ∃ m, m = n + x.1.size := ⟨_, rfl⟩
        obtain ⟨m2, hm2⟩ : ∃ m, m = m1 + x.2.size := ⟨_, rfl⟩
        have hw1 : IntKind.i64.wrap ((n : Int) + (x.1.size : Int)) = (m1 : Int) := by rw [IntKind.wrap_i64]; omega
        have hw2 : IntKind.i64.wrap ((m1 : Int) + (x.2.size : Int)) = (m2 : Int) := by rw [IntKind.wrap_i64]; omega
        have HM := Lib.hid (And.intro hm1 hm2)
        have hmb : m2 ≤ 562949953421312 := by omega
        clear hm1 hm2
        have HX := Lib.hid hx
        clear hx hc
        go_wp2_with fail
        refine wp_region_q [0,0,0,0,0,1,0,0,0,0,0,0,1,0,0,0] (by kernel_rfl) (by kernel_rfl) ?_
        (refine q_pure_n rfl (fun K hK => ?_); go_simp; refine hK _ _ ?_; clear hK K)
        (refine q_pure_n rfl (fun K hK => ?_); go_simp; refine hK _ _ ?_; clear hK K)
        (refine q_pure_n rfl (fun K hK => ?_); go_simp; refine hK _ _ ?_; clear hK K)
        (refine q_pure_n rfl (fun K hK => ?_); go_simp; refine hK _ _ ?_; clear hK K)
        (refine q_pure_n rfl (fun K hK => ?_); go_simp; refine hK _ _ ?_; clear hK K)
        (refine q_read_n rfl (fun K hK => ?_); go_simp; refine hK _ _ ?_; clear hK K)
        (refine q_pure_n rfl (fun K hK => ?_); go_simp; refine hK _ _ ?_; clear hK K)
        (refine q_pure_n rfl (fun K hK => ?_); go_simp; refine hK _ _ ?_; clear hK K)
        (refine q_pure_n rfl (fun K hK => ?_); go_simp; refine hK _ _ ?_; clear hK K)
        (refine q_pure_n rfl (fun K hK => ?_); go_simp; refine hK _ _ ?_; clear hK K)
        (refine q_pure_n rfl (fun K hK => ?_); go_simp; refine hK _ _ ?_; clear hK K)
        (refine q_pure_n rfl (fun K hK => ?_); go_simp; refine hK _ _ ?_; clear hK K)
        (refine q_read_n rfl (fun K hK => ?_); go_simp; refine hK _ _ ?_; clear hK K)
        (refine q_pure_n rfl (fun K hK => ?_); go_simp; refine hK _ _ ?_; clear hK K)
        (refine q_pure_n rfl (fun K hK => ?_); go_simp; refine hK _ _ ?_; clear hK K)
        (refine q_pure_n rfl (fun K hK => ?_); go_simp; refine hK _ _ ?_; clear hK K)
        refine q_nil ?_
        intro nq
        go_wp2_with fail
        go_roundw
        case rel =>
          refine ⟨k + 1, m2, by omega, by go_num, rfl, hmb, Lib.hid (fun h => ?_), Lib.hid (below_drewN HB.out _)⟩
          rw [szto_succ _ _ hks, ← HX.out, ← HN.out hm]
          have := HM.out
          unfold szPr
          omega
        case measure => simp [intOf]; omega
      · have hm' : ¬ (n : Int) ≤ 1048576 := by omega
        go_wp2_with fail
        go_ret
        exact ⟨n, rfl, hn, fun h => absurd h hm, HB.out⟩
    · have hlt' : ¬ ((k : Int) < (L : Int)) := by omega
      obtain rfl : k = L := by omega
      go_wp2_with fail
      go_ret
      refine ⟨n, rfl, hn, fun h => ?_, HB.out⟩
      rw [HN.out h, HL.out, szto_all]
end Go.Proofs.Ytpnmhldaaaemeaa.Snp
/- Chapter 24: how much a value has in it. Printed by gen_sizev24.py. -/
namespace Go.Proofs.Ytpnmhldaaaemeaa.Snp
open Go.RowKit Go.Proofs.Ytpnmhldaaaemeaa.Pin

def szEn (e : En) : Nat := szBy szPr e.pairs
/-- each text, each list within bounds -/
structure VaT (v : Va) : Prop where
  text : v.text.size ≤ 140737488351232
  list : ∀ t ∈ v.list, t.size ≤ 140737488351232
  hash : ∀ t ∈ v.hash, t.1.size ≤ 140737488351232 ∧ t.2.size ≤ 140737488351232
  set : ∀ t ∈ v.set, t.size ≤ 140737488351232
  zset : ∀ t ∈ v.zset, t.1.size ≤ 140737488351232
  stream : ∀ e ∈ v.stream, ∀ t ∈ e.pairs, t.1.size ≤ 140737488351232 ∧ t.2.size ≤ 140737488351232
set_option maxHeartbeats 2000000 in
set_option maxRecDepth 100000 in
theorem sz_entries (l : List En) (v : Value) (w : World) (hT : EntriesAt w w.heap.size v l) (hl : l.length ≤ 140737488351232) (hpl : ∀ e ∈ l, e.pairs.length ≤ 140737488351232) (hs : ∀ e ∈ l, ∀ t ∈ e.pairs, t.1.size ≤ 140737488351232 ∧ t.2.size ≤ 140737488351232) : Sized 34 #[v] w 1125899906842624 (szBy szEn l) := by
  obtain ⟨A, c, rfl, hT⟩ := hT
  unfold Sized
  obtain ⟨L, hL⟩ : ∃ L, L = l.length := ⟨_, rfl⟩
  rw [← hL] at hl ⊢
  have HL := Lib.hid hL
  have HT := Lib.hid hT
  have HS := Lib.hid hs
  have HPL := Lib.hid hpl
  clear hL hT hs hpl
  go_enter Try.func34, Try.ntmps34
  go_wp2_with fail
  go_loopw [3, 4] (fun v i wr => ∃ (k n : Nat), k ≤ L ∧ i = .int .i64 k ∧ v = .int .i64 (n : Int) ∧ n ≤ 1125899906842624 ∧ Hid (n ≤ 1048576 → n = szTo szEn l k) ∧ Hid (Below w.heap.size w wr)) (fun _ i _ => L - (intOf i).toNat)
  case atStart => exact ⟨0, L, by omega, rfl, rfl, by omega, Lib.hid (fun _ => by rw [szto_zero]; exact HL.out), Lib.hid (Below.refl _ _)⟩
  case round =>
    obtain ⟨k, n, hk, rfl, rfl, hn, HN, HB⟩ := hrel
    by_cases hlt : k < L
    · have hlt' : (k : Int) < (L : Int) := by omega
      by_cases hm : n ≤ 1048576
      · have hm' : (n : Int) ≤ 1048576 := by omega
        have hks : k < l.length := by rw [← HL.out]; exact hlt
        obtain ⟨r, o, rfl, hr, hc⟩ := HT.out (by have := HL.out; omega)
        have hsx := HS.out _ (List.getElem_mem hks)
        have hpx := HPL.out _ (List.getElem_mem hks)
        obtain ⟨-, -, pv, hcd, hpv⟩ := hc k hks
        have g := (HB.out.cell (p := ⟨r, _, none⟩) hr).trans hcd
        obtain ⟨x, hx⟩ : ∃ x, x = l[k] := ⟨_, rfl⟩
        rw [← hx] at hsx hpx hpv
        have HP : Hid (Sized 32 #[pv] wr 562949953421312 (szEn x)) := Lib.hid (sz_pairs x.pairs pv wr ((hpv.below HB.out).more HB.out.size) hpx hsx)
        have HX := Lib.hid hx
        clear hx hc hcd hpv hsx hpx
        go_wp2_with fail
        refine HP.out.mono ?_
        rintro e w2 ⟨a, rfl, ha, ha2, hb2⟩
        have HA := Lib.hid ha2
        have HB2 : Hid (Below w.heap.size w w2) := Lib.hid (HB.out.trans (hb2.mono HB.out.size))
        clear ha2 hb2
        go_wp2_with fail
        refine ⟨⟨k + 1, n + a, by omega, by go_num, by go_num, by omega, Lib.hid (fun h => ?_), HB2⟩, by simp [intOf]; omega⟩
        rw [szto_succ _ _ hks, ← HX.out, ← HN.out hm, ← HA.out (by omega)]
      · have hm' : ¬ (n : Int) ≤ 1048576 := by omega
        go_wp2_with fail
        go_ret
        exact ⟨n, rfl, hn, fun h => absurd h hm, HB.out⟩
    · have hlt' : ¬ ((k : Int) < (L : Int)) := by omega
      obtain rfl : k = L := by omega
      go_wp2_with fail
      go_ret
      refine ⟨n, rfl, hn, fun h => ?_, HB.out⟩
      rw [HN.out h, HL.out, szto_all]
def szVa (v : Va) : Nat := 1 + v.text.size + szBy (fun s => s.size) v.list + szBy szPr v.hash + szBy (fun s => s.size) v.set + szBy (fun s => s.1.size) v.zset + szBy szEn v.stream
set_option maxHeartbeats 4000000 in
set_option maxRecDepth 100000 in
theorem sz_value (v : Va) (c : Cl) (w : World) (hv : ValAt w w.heap.size c v) (hB : VaB v) (hT : VaT v) : Sized 17 #[vV v c] w 2251799813685248 (szVa v) := by
  have HV := Lib.hid hv
  unfold Sized
  have C0 : Hid (∀ W, Below w.heap.size w W → Sized 31 #[c.lv] W 281474976710656 (szBy (fun s => s.size) v.list)) := Lib.hid (fun W hW => sz_texts v.list _ W ((HV.out.list.below hW).more hW.size) hB.list hT.list)
  have C1 : Hid (∀ W, Below w.heap.size w W → Sized 32 #[c.hv] W 562949953421312 (szBy szPr v.hash)) := Lib.hid (fun W hW => sz_pairs v.hash _ W ((HV.out.hash.below hW).more hW.size) hB.hash hT.hash)
  have C2 : Hid (∀ W, Below w.heap.size w W → Sized 31 #[c.sv] W 281474976710656 (szBy (fun s => s.size) v.set)) := Lib.hid (fun W hW => sz_texts v.set _ W ((HV.out.set.below hW).more hW.size) hB.set hT.set)
  have C3 : Hid (∀ W, Below w.heap.size w W → Sized 33 #[c.zv] W 281474976710656 (szBy (fun s => s.1.size) v.zset)) := Lib.hid (fun W hW => sz_scoreds v.zset _ W ((HV.out.zset.below hW).more hW.size) hB.zset hT.zset)
  have C4 : Hid (∀ W, Below w.heap.size w W → Sized 34 #[c.ev] W 1125899906842624 (szBy szEn v.stream)) := Lib.hid (fun W hW => sz_entries v.stream _ W ((HV.out.stream.below hW).more hW.size) hB.stream hB.pairs hT.stream)
  have htx := hT.text
  clear hv hB hT
  obtain ⟨m0, hm0⟩ : ∃ m, m = 1 + v.text.size := ⟨_, rfl⟩
  have hw0 : IntKind.i64.wrap (1 + (v.text.size : Int)) = (m0 : Int) := by rw [IntKind.wrap_i64]; omega
  have M0 := Lib.hid hm0
  have hm0b : m0 ≤ 140737488351233 := by omega
  clear hm0 htx
  go_enter Try.func17, Try.ntmps17
  go_wp2_with fail
  have hbo := heap_alloc_new w (.cells #[.int .u8 (v.kind : Int), .string v.text, c.lv, c.hv, c.sv, c.zv, c.ev, .int .u64 (v.ms : Int), .int .u64 (v.seq : Int)] 31)
  have HS : Hid ((w.alloc (.cells #[.int .u8 (v.kind : Int), .string v.text, c.lv, c.hv, c.sv, c.zv, c.ev, .int .u64 (v.ms : Int), .int .u64 (v.seq : Int)] 31)).cell? ⟨w.heap.size, 1, none⟩ = some (.string v.text) ∧ (w.alloc (.cells #[.int .u8 (v.kind : Int), .string v.text, c.lv, c.hv, c.sv, c.zv, c.ev, .int .u64 (v.ms : Int), .int .u64 (v.seq : Int)] 31)).cell? ⟨w.heap.size, 2, none⟩ = some c.lv) := Lib.hid ⟨by rw [Lib.cell_of_heap hbo]; rfl, by rw [Lib.cell_of_heap hbo]; rfl⟩
  clear hbo
  refine wp_region_pinS (fun w' => w'.cell? ⟨w.heap.size, 1, none⟩ = some (.string v.text) ∧ w'.cell? ⟨w.heap.size, 2, none⟩ = some c.lv) [0,0,0,0,0,0,2,0,0] (by kernel_rfl) (by kernel_rfl) (fun _ _ h => h) (HS.out) ?_
  (refine pin_pure (fun K hK => ?_); go_simp; refine hK _ _ ?_; clear hK K)
  (refine pin_fixed (fun K hK => ?_); go_simp; refine ⟨.string v.text, fun w => ?_, hK _ _ ?_⟩; (intros; go_simp); clear hK K)
  (refine pin_pure (fun K hK => ?_); go_simp; refine hK _ _ ?_; clear hK K)
  (refine pin_pure (fun K hK => ?_); go_simp; refine hK _ _ ?_; clear hK K)
  (refine pin_pure (fun K hK => ?_); go_simp; refine hK _ _ ?_; clear hK K)
  (refine pin_fixed (fun K hK => ?_); go_simp; refine ⟨c.lv, fun w => ?_, hK _ _ ?_⟩; (intros; go_simp); clear hK K)
  (refine pin_writeS (fun K hK => ?_); go_simp; intro nw; refine (C0.out _ (below_drewN ((Below.refl _ w).alloc (Nat.le_refl _) _) _)).mono ?_; rintro e w2 ⟨a0, rfl, ha0, hs0, hb3⟩; obtain ⟨hbb, hbo⟩ := box_below hb3; clear hb3; obtain ⟨w2, rfl⟩ : ∃ w5, w2 = World.drewN w5 0 := ⟨w2, rfl⟩; have HB2 : Hid (Below w.heap.size w w2) := Lib.hid hbb; have HBO2 : Hid (w2.heap[w.heap.size]? = some (.cells #[.int .u8 (v.kind : Int), .string v.text, c.lv, c.hv, c.sv, c.zv, c.ev, .int .u64 (v.ms : Int), .int .u64 (v.seq : Int)] 31 (0, 0))) := Lib.hid hbo; have HS0 := Lib.hid hs0; obtain ⟨m1, hm1⟩ : ∃ m, m = m0 + a0 := ⟨_, rfl⟩; have hw1 : IntKind.i64.wrap ((m0 : Int) + (a0 : Int)) = (m1 : Int) := (by rw [IntKind.wrap_i64]; omega); have M1 := Lib.hid hm1; have hm1b : m1 ≤ 422212465061889 := (by omega); clear hbb hbo hs0 hm1; refine ⟨_, rfl, _, ⟨_, rfl⟩, hK _ _ ?_ ?_⟩; (exact ⟨by rw [Lib.cell_of_heap HBO2.out]; rfl, by rw [Lib.cell_of_heap HBO2.out]; rfl⟩); clear hK K)
  (refine pin_pure (fun K hK => ?_); go_simp; refine hK _ _ ?_; clear hK K)
  (refine pin_pure (fun K hK => ?_); go_simp; refine hK _ _ ?_; clear hK K)
  refine pin_nil ?_
  intro nq
  have g1 : (w2.drewN nq).cell? ⟨w.heap.size, 3, none⟩ = some c.hv := by rw [Lib.cell_of_heap (show (w2.drewN nq).heap[w.heap.size]? = some (.cells #[.int .u8 (v.kind : Int), .string v.text, c.lv, c.hv, c.sv, c.zv, c.ev, .int .u64 (v.ms : Int), .int .u64 (v.seq : Int)] 31 (0, 0)) from HBO2.out)]; rfl
  by_cases hb1 : ¬ m1 ≤ 1048576
  · have hi1 : ¬ (m1 : Int) ≤ 1048576 := by omega
    go_wp2_with fail
    go_ret
    exact ⟨m1, rfl, by omega, fun h => absurd h hb1, (below_drewN HB2.out nq)⟩
  have hb1 := Classical.not_not.1 hb1
  have hi1 : (m1 : Int) ≤ 1048576 := by omega
  go_wp2_with fail
  refine (C1.out _ (below_drewN HB2.out nq)).mono ?_
  rintro e v1 ⟨a1, rfl, ha1, hs1, hx1⟩
  have HS1 := Lib.hid hs1
  have HB1' : Hid (Below w.heap.size w v1) := Lib.hid ((below_drewN HB2.out nq).trans (hx1.mono (below_drewN HB2.out nq).size))
  have HO1' : Hid (v1.heap[w.heap.size]? = some (.cells #[.int .u8 (v.kind : Int), .string v.text, c.lv, c.hv, c.sv, c.zv, c.ev, .int .u64 (v.ms : Int), .int .u64 (v.seq : Int)] 31 (0, 0))) := Lib.hid ((hx1.block _ (Array.getElem?_eq_some_iff.1 (show (w2.drewN nq).heap[w.heap.size]? = some (.cells #[.int .u8 (v.kind : Int), .string v.text, c.lv, c.hv, c.sv, c.zv, c.ev, .int .u64 (v.ms : Int), .int .u64 (v.seq : Int)] 31 (0, 0)) from HBO2.out)).1).trans HBO2.out)
  clear hs1 hx1 g1
  have g2 : v1.cell? ⟨w.heap.size, 4, none⟩ = some c.sv := by rw [Lib.cell_of_heap (show v1.heap[w.heap.size]? = some (.cells #[.int .u8 (v.kind : Int), .string v.text, c.lv, c.hv, c.sv, c.zv, c.ev, .int .u64 (v.ms : Int), .int .u64 (v.seq : Int)] 31 (0, 0)) from HO1'.out)]; rfl
  by_cases hb2 : ¬ m1 + a1 ≤ 1048576
  · have hi2 : ¬ (m1 : Int) + (a1 : Int) ≤ 1048576 := by omega
    go_wp2_with fail
    go_ret
    exact ⟨m1 + a1, rfl, by omega, fun h => absurd h hb2, HB1'.out⟩
  have hb2 := Classical.not_not.1 hb2
  have hi2 : (m1 : Int) + (a1 : Int) ≤ 1048576 := by omega
  go_wp2_with fail
  refine (C2.out _ HB1'.out).mono ?_
  rintro e v2 ⟨a2, rfl, ha2, hs2, hx2⟩
  have HS2 := Lib.hid hs2
  have HB2' : Hid (Below w.heap.size w v2) := Lib.hid (HB1'.out.trans (hx2.mono HB1'.out.size))
  have HO2' : Hid (v2.heap[w.heap.size]? = some (.cells #[.int .u8 (v.kind : Int), .string v.text, c.lv, c.hv, c.sv, c.zv, c.ev, .int .u64 (v.ms : Int), .int .u64 (v.seq : Int)] 31 (0, 0))) := Lib.hid ((hx2.block _ (Array.getElem?_eq_some_iff.1 (show v1.heap[w.heap.size]? = some (.cells #[.int .u8 (v.kind : Int), .string v.text, c.lv, c.hv, c.sv, c.zv, c.ev, .int .u64 (v.ms : Int), .int .u64 (v.seq : Int)] 31 (0, 0)) from HO1'.out)).1).trans HO1'.out)
  clear hs2 hx2 g2
  have g3 : v2.cell? ⟨w.heap.size, 5, none⟩ = some c.zv := by rw [Lib.cell_of_heap (show v2.heap[w.heap.size]? = some (.cells #[.int .u8 (v.kind : Int), .string v.text, c.lv, c.hv, c.sv, c.zv, c.ev, .int .u64 (v.ms : Int), .int .u64 (v.seq : Int)] 31 (0, 0)) from HO2'.out)]; rfl
  by_cases hb3 : ¬ m1 + a1 + a2 ≤ 1048576
  · have hi3 : ¬ (m1 : Int) + (a1 : Int) + (a2 : Int) ≤ 1048576 := by omega
    go_wp2_with fail
    go_ret
    exact ⟨m1 + a1 + a2, rfl, by omega, fun h => absurd h hb3, HB2'.out⟩
  have hb3 := Classical.not_not.1 hb3
  have hi3 : (m1 : Int) + (a1 : Int) + (a2 : Int) ≤ 1048576 := by omega
  go_wp2_with fail
  refine (C3.out _ HB2'.out).mono ?_
  rintro e v3 ⟨a3, rfl, ha3, hs3, hx3⟩
  have HS3 := Lib.hid hs3
  have HB3' : Hid (Below w.heap.size w v3) := Lib.hid (HB2'.out.trans (hx3.mono HB2'.out.size))
  have HO3' : Hid (v3.heap[w.heap.size]? = some (.cells #[.int .u8 (v.kind : Int), .string v.text, c.lv, c.hv, c.sv, c.zv, c.ev, .int .u64 (v.ms : Int), .int .u64 (v.seq : Int)] 31 (0, 0))) := Lib.hid ((hx3.block _ (Array.getElem?_eq_some_iff.1 (show v2.heap[w.heap.size]? = some (.cells #[.int .u8 (v.kind : Int), .string v.text, c.lv, c.hv, c.sv, c.zv, c.ev, .int .u64 (v.ms : Int), .int .u64 (v.seq : Int)] 31 (0, 0)) from HO2'.out)).1).trans HO2'.out)
  clear hs3 hx3 g3
  have g4 : v3.cell? ⟨w.heap.size, 6, none⟩ = some c.ev := by rw [Lib.cell_of_heap (show v3.heap[w.heap.size]? = some (.cells #[.int .u8 (v.kind : Int), .string v.text, c.lv, c.hv, c.sv, c.zv, c.ev, .int .u64 (v.ms : Int), .int .u64 (v.seq : Int)] 31 (0, 0)) from HO3'.out)]; rfl
  by_cases hb4 : ¬ m1 + a1 + a2 + a3 ≤ 1048576
  · have hi4 : ¬ (m1 : Int) + (a1 : Int) + (a2 : Int) + (a3 : Int) ≤ 1048576 := by omega
    go_wp2_with fail
    go_ret
    exact ⟨m1 + a1 + a2 + a3, rfl, by omega, fun h => absurd h hb4, HB3'.out⟩
  have hb4 := Classical.not_not.1 hb4
  have hi4 : (m1 : Int) + (a1 : Int) + (a2 : Int) + (a3 : Int) ≤ 1048576 := by omega
  go_wp2_with fail
  refine (C4.out _ HB3'.out).mono ?_
  rintro e v4 ⟨a4, rfl, ha4, hs4, hx4⟩
  have HS4 := Lib.hid hs4
  have HB4' : Hid (Below w.heap.size w v4) := Lib.hid (HB3'.out.trans (hx4.mono HB3'.out.size))
  have HO4' : Hid (v4.heap[w.heap.size]? = some (.cells #[.int .u8 (v.kind : Int), .string v.text, c.lv, c.hv, c.sv, c.zv, c.ev, .int .u64 (v.ms : Int), .int .u64 (v.seq : Int)] 31 (0, 0))) := Lib.hid ((hx4.block _ (Array.getElem?_eq_some_iff.1 (show v3.heap[w.heap.size]? = some (.cells #[.int .u8 (v.kind : Int), .string v.text, c.lv, c.hv, c.sv, c.zv, c.ev, .int .u64 (v.ms : Int), .int .u64 (v.seq : Int)] 31 (0, 0)) from HO3'.out)).1).trans HO3'.out)
  clear hs4 hx4 g4
  go_wp2_with fail
  go_ret
  exact ⟨m1 + a1 + a2 + a3 + a4, rfl, by omega, fun h => by have h0 := HS0.out; have h1 := HS1.out (by omega); have h2 := HS2.out (by omega); have h3 := HS3.out (by omega); have h4 := HS4.out (by omega); have h5 := M0.out; have h6 := M1.out; have h7 := h0 (by omega); unfold szVa; omega, HB4'.out⟩
end Go.Proofs.Ytpnmhldaaaemeaa.Snp
/- Chapter 24: how much items have in them. Printed by gen_sizei24.py. -/
namespace Go.Proofs.Ytpnmhldaaaemeaa.Snp
open Go.RowKit Go.Proofs.Ytpnmhldaaaemeaa.Pin

def szIt (it : It) : Nat := it.key.size + szVa it.val
structure ItT (it : It) : Prop where
  key : it.key.size ≤ 140737488351232
  val : VaT it.val
set_option maxHeartbeats 4000000 in
set_option maxRecDepth 100000 in
theorem sz_items (l : List It) (v : Value) (w : World) (hT : ItemsAt w w.heap.size v l) (hl : l.length ≤ 140737488351232) (hB : ∀ it ∈ l, VaB it.val) (hI : ∀ it ∈ l, ItT it) : Sized 9 #[v] w 4503599627370496 (szBy szIt l) := by
  obtain ⟨A, c, rfl, hT⟩ := hT
  unfold Sized
  obtain ⟨L, hL⟩ : ∃ L, L = l.length := ⟨_, rfl⟩
  rw [← hL] at hl ⊢
  have HL := Lib.hid hL
  have HT := Lib.hid hT
  have HVB := Lib.hid hB
  have HIT := Lib.hid hI
  clear hL hT hB hI
  go_enter Try.func9, Try.ntmps9
  go_wp2_with fail
  go_loopw [3, 4] (fun v i wr => ∃ (k n : Nat), k ≤ L ∧ i = .int .i64 k ∧ v = .int .i64 (n : Int) ∧ n ≤ 4503599627370496 ∧ Hid (n ≤ 1048576 → n = szTo szIt l k) ∧ Hid (Below w.heap.size w wr)) (fun _ i _ => L - (intOf i).toNat)
  case atStart => exact ⟨0, L, by omega, rfl, rfl, by omega, Lib.hid (fun _ => by rw [szto_zero]; exact HL.out), Lib.hid (Below.refl _ _)⟩
  case round =>
    obtain ⟨k, n, hk, rfl, rfl, hn, HN, HB⟩ := hrel
    by_cases hlt : k < L
    · have hlt' : (k : Int) < (L : Int) := by omega
      by_cases hm : n ≤ 1048576
      · have hm' : (n : Int) ≤ 1048576 := by omega
        have hks : k < l.length := by rw [← HL.out]; exact hlt
        obtain ⟨r, o, rfl, hr, hc⟩ := HT.out (by have := HL.out; omega)
        obtain ⟨cl, hra, hva⟩ := hc k hks
        have hvb := HVB.out _ (List.getElem_mem hks)
        have hit := HIT.out _ (List.getElem_mem hks)
        obtain ⟨x, hx⟩ : ∃ x, x = l[k] := ⟨_, rfl⟩
        rw [← hx] at hra hva hvb hit
        have HX := Lib.hid hx
        have hra' : wr.rangeAt r (o + k * 12) (icells x cl) := fun j u hj => (HB.out.cell (p := ⟨r, _, none⟩) hr).trans (hra j u hj)
        have d1 : wr.cell? ⟨r, o + k * 12 + 1, none⟩ = some (.string x.key) := hra' 1 _ rfl
        have d2 : wr.cell? ⟨r, o + k * 12 + 2, none⟩ = some (.int .u8 (x.val.kind : Int)) := hra' 2 _ rfl
        have d3 : wr.cell? ⟨r, o + k * 12 + 3, none⟩ = some (.string x.val.text) := hra' 3 _ rfl
        have d4 : wr.cell? ⟨r, o + k * 12 + 4, none⟩ = some (cl.lv) := hra' 4 _ rfl
        have d5 : wr.cell? ⟨r, o + k * 12 + 5, none⟩ = some (cl.hv) := hra' 5 _ rfl
        have d6 : wr.cell? ⟨r, o + k * 12 + 6, none⟩ = some (cl.sv) := hra' 6 _ rfl
        have d7 : wr.cell? ⟨r, o + k * 12 + 7, none⟩ = some (cl.zv) := hra' 7 _ rfl
        have d8 : wr.cell? ⟨r, o + k * 12 + 8, none⟩ = some (cl.ev) := hra' 8 _ rfl
        have d9 : wr.cell? ⟨r, o + k * 12 + 9, none⟩ = some (.int .u64 (x.val.ms : Int)) := hra' 9 _ rfl
        have d10 : wr.cell? ⟨r, o + k * 12 + 10, none⟩ = some (.int .u64 (x.val.seq : Int)) := hra' 10 _ rfl
        have HC : Hid (∀ q, Sized 17 #[vV x.val cl] (wr.drewN q) 2251799813685248 (szVa x.val)) := Lib.hid (fun q => sz_value x.val cl _ ((hva.below (below_drewN HB.out q)).more (by have := HB.out.size; show _ ≤ wr.heap.size; omega)) hvb hit.val)
        have hkx := hit.key
        obtain ⟨m1, hm1⟩ : ∃ m, m = n + x.key.size := ⟨_, rfl⟩
        have hw1 : IntKind.i64.wrap ((n : Int) + (x.key.size : Int)) = (m1 : Int) := by rw [IntKind.wrap_i64]; omega
        have hm1b : m1 ≤ 140737489399808 := by omega
        have M1 := Lib.hid hm1
        have HRL := Lib.hid (show r < wr.heap.size by have := HB.out.size; omega)
        have HS := Lib.hid d1
        clear hx hra hra' hva hvb hit hc hkx hm1
        go_wp2_with fail
        refine wp_region_pinS (fun w' => w'.cell? ⟨r, o + k * 12 + 1, none⟩ = some (.string x.key)) [0,0,0,0,0,0,0,0,0,0,0,0,1,2,0,0] (by kernel_rfl) (by kernel_rfl) (fun _ _ h => h) (HS.out) ?_
        (refine pin_pure (fun K hK => ?_); go_simp; refine hK _ _ ?_; clear hK K)
        (refine pin_pure (fun K hK => ?_); go_simp; refine hK _ _ ?_; clear hK K)
        (refine pin_pure (fun K hK => ?_); go_simp; refine hK _ _ ?_; clear hK K)
        (refine pin_pure (fun K hK => ?_); go_simp; refine hK _ _ ?_; clear hK K)
        (refine pin_pure (fun K hK => ?_); go_simp; refine hK _ _ ?_; clear hK K)
        (refine pin_fixed (fun K hK => ?_); go_simp; refine ⟨.string x.key, fun w => ?_, hK _ _ ?_⟩; (intros; go_simp); clear hK K)
        (refine pin_pure (fun K hK => ?_); go_simp; refine hK _ _ ?_; clear hK K)
        (refine pin_pure (fun K hK => ?_); go_simp; refine hK _ _ ?_; clear hK K)
        (refine pin_pure (fun K hK => ?_); go_simp; refine hK _ _ ?_; clear hK K)
        (refine pin_pure (fun K hK => ?_); go_simp; refine hK _ _ ?_; clear hK K)
        (refine pin_pure (fun K hK => ?_); go_simp; refine hK _ _ ?_; clear hK K)
        (refine pin_pure (fun K hK => ?_); go_simp; refine hK _ _ ?_; clear hK K)
        (refine pin_read (fun K hK => ?_); go_simp; refine hK _ _ ?_; clear hK K)
        (refine pin_writeS (fun K hK => ?_); go_simp; intro nw; refine (HC.out _).mono ?_; rintro e w2 ⟨a, rfl, ha, hsa, hb3⟩; obtain ⟨w2, rfl⟩ : ∃ w5, w2 = World.drewN w5 0 := ⟨w2, rfl⟩; have HB2 : Hid (Below wr.heap.size wr w2) := Lib.hid ((below_drewN (Below.refl _ wr) _).trans hb3); have HA := Lib.hid hsa; obtain ⟨m2, hm2⟩ : ∃ m, m = m1 + a := ⟨_, rfl⟩; have hw2 : IntKind.i64.wrap ((m1 : Int) + (a : Int)) = (m2 : Int) := (by rw [IntKind.wrap_i64]; omega); have M2 := Lib.hid hm2; have hm2b : m2 ≤ 4503599627370496 := (by omega); clear hb3 hsa hm2; refine ⟨_, rfl, _, ⟨_, rfl⟩, hK _ _ ?_ ?_⟩; (exact (HB2.out.cell (p := ⟨r, _, none⟩) HRL.out).trans HS.out); clear hK K)
        (refine pin_pure (fun K hK => ?_); go_simp; refine hK _ _ ?_; clear hK K)
        (refine pin_pure (fun K hK => ?_); go_simp; refine hK _ _ ?_; clear hK K)
        refine pin_nil ?_
        intro nq
        go_wp2_with fail
        refine ⟨⟨k + 1, m2, by omega, by go_num, rfl, hm2b, Lib.hid (fun h => ?_), Lib.hid (below_drewN (HB.out.trans (HB2.out.mono HB.out.size)) _)⟩, by simp [intOf]; omega⟩
        rw [szto_succ _ _ hks, ← HX.out, ← HN.out hm]
        have h1 := M1.out
        have h2 := M2.out
        have h3 := HA.out (by omega)
        unfold szIt
        omega
      · have hm' : ¬ (n : Int) ≤ 1048576 := by omega
        go_wp2_with fail
        go_ret
        exact ⟨n, rfl, hn, fun h => absurd h hm, HB.out⟩
    · have hlt' : ¬ ((k : Int) < (L : Int)) := by omega
      obtain rfl : k = L := by omega
      go_wp2_with fail
      go_ret
      refine ⟨n, rfl, hn, fun h => ?_, HB.out⟩
      rw [HN.out h, HL.out, szto_all]
end Go.Proofs.Ytpnmhldaaaemeaa.Snp
/- The walk of the statements' bound: Beyond tells whether sizes, added up one by one, pass 1048576. -/
namespace Go.Proofs.Ytpnmhldaaaemeaa.Bey
open Go.RowKit

/-- do they pass the bound, added to n one by one? -/
def beyond : Int → List Int → Bool
  | _, [] => false
  | n, x :: l => if 1048576 < n + x then true else beyond (n + x) l

theorem drop_cons (ns : List Int) (k : Nat) (h : k < ns.length) : ns.drop k = ns[k] :: ns.drop (k + 1) := by
  rw [List.drop_eq_getElem_cons h]

set_option maxHeartbeats 400000 in
set_option maxRecDepth 100000 in
theorem beyond_any (ns : List Int) (c : Nat) (g : Nat) (w : World) (hn : ns.length ≤ 281474976710656) (hb : ∀ x ∈ ns, 0 ≤ x ∧ x ≤ 4503599627370496)
    (hc : ∀ j (h : j < ns.length), w.cell? ⟨g, j, none⟩ = some (.int .i64 ns[j])) :
    Calls Try.prog 8 #[.slice (some ⟨g, 0, none⟩) ns.length c] w fun e w' => e = .returned (.bool (beyond 0 ns)) ∧ w = w' := by
  have HC := Lib.hid hc
  have HB := Lib.hid hb
  clear hc hb
  go_enter Try.func8, Try.ntmps8
  go_wp2
  go_loop [3, 4] (fun v i => ∃ (k : Nat) (n : Int), k ≤ ns.length ∧ i = .int .i64 k ∧ v = .int .i64 n ∧ 0 ≤ n ∧ n ≤ 1048576 ∧ Hid (beyond 0 ns = beyond n (ns.drop k))) (fun _ i => ns.length - (intOf i).toNat)
  case atStart => exact ⟨0, 0, by omega, rfl, rfl, by omega, by omega, Lib.hid rfl⟩
  case round =>
    obtain ⟨k, n, hk, rfl, rfl, h0, h1, HN⟩ := hrel
    by_cases hlt : k < ns.length
    · obtain ⟨x, hx⟩ : ∃ x, x = ns[k] := ⟨_, rfl⟩
      have hcell := HC.out k hlt
      have hbd := HB.out ns[k] (List.getElem_mem hlt)
      have HD : Hid (ns.drop k = x :: ns.drop (k + 1)) := by rw [hx]; exact drop_cons ns k hlt
      rw [← hx] at hcell hbd
      clear hx
      obtain ⟨hb0, hb1⟩ := hbd
      go_wp2
      · go_ret
        have ht : 1048576 < n + x := by omega
        exact ⟨by rw [HN.out, HD.out, beyond, if_pos ht]; rfl, rfl⟩
      · have ht : ¬ 1048576 < n + x := by omega
        exact ⟨⟨k + 1, n + x, by omega, by go_num, rfl, by omega, by omega, Lib.hid (by rw [HN.out, HD.out, beyond, if_neg ht])⟩, by simp [intOf]; omega⟩
    · have e : k = ns.length := by omega
      subst e
      go_wp2
      go_ret
      exact ⟨by rw [HN.out, List.drop_length]; rfl, rfl⟩
end Go.Proofs.Ytpnmhldaaaemeaa.Bey
/- Chapter 24's laws, plainly: what is written is short, whole, and nothing that begins what else is written. -/
namespace Go.Proofs.Ytpnmhldaaaemeaa.Snp
open Go.RowKit Go.Proofs.Ytpnmhldaaaemeaa.Pin
/-! ### How long -/
theorem flat_len {α : Type} (f : α → List UInt8) (sz : α → Nat) (a b : Nat) (hf : ∀ x, (f x).length ≤ a + b * sz x) (l : List α) : ((l.map f).flatten).length ≤ a * l.length + b * (l.map sz).sum := by
  induction l with
  | nil => simp
  | cons x l ih =>
    have := hf x
    simp only [List.map_cons, List.flatten_cons, List.length_append, List.length_cons, List.sum_cons, Nat.mul_add, Nat.mul_one]
    omega
theorem list_len {α : Type} (f : α → List UInt8) (sz : α → Nat) (a : Nat) (b : Nat) (hab : a ≤ b) (hf : ∀ x, (f x).length ≤ a + b * sz x) (l : List α) : (listB f l).length ≤ 4 + b * szBy sz l := by
  have h := flat_len f sz a b hf l
  simp only [listB, szBy, List.length_append, leB_len, Nat.mul_add]
  have := Nat.mul_le_mul_right l.length hab
  omega
theorem text_len (s : ByteArray) : (textB s).length ≤ 4 + 20 * s.size := by rw [textB_len]; omega
theorem pair_len (p : Pr) : (pairB p).length ≤ 8 + 20 * szPr p := by
  simp only [pairB, List.length_append, textB_len, szPr]; omega
theorem scored_len (p : Sc) : (scB p).length ≤ 12 + 20 * p.1.size := by
  simp only [scB, List.length_append, textB_len, leB_len]; omega
theorem entry_len (e : En) : (enB e).length ≤ 20 + 20 * szEn e := by
  have := list_len pairB szPr 8 20 (by decide) pair_len e.pairs
  simp only [enB, idB, List.length_append, leB_len, szEn]; omega
theorem va_len (v : Va) : (vaB v).length ≤ 20 + 20 * szVa v := by
  have h1 := text_len v.text
  have h2 := list_len textB (fun s => s.size) 4 20 (by decide) text_len v.list
  have h3 := list_len pairB szPr 8 20 (by decide) pair_len v.hash
  have h4 := list_len textB (fun s => s.size) 4 20 (by decide) text_len v.set
  have h5 := list_len scB (fun s => s.1.size) 12 20 (by decide) scored_len v.zset
  have h6 := list_len enB szEn 20 20 (by decide) entry_len v.stream
  unfold szVa vaB
  split
  all_goals try simp only [idB, List.length_append, leB_len, List.length_nil]
  all_goals omega
theorem it_len (it : It) : (itB it).length ≤ 35 + 20 * szIt it := by
  have := va_len it.val
  rw [itB_len]
  unfold szIt
  omega
theorem enc_len (l : List It) : (encB l).length ≤ 19 + 35 * szBy szIt l := by
  have := flat_len itB szIt 35 20 it_len l
  simp only [encB, bodyB, List.length_append, leB_len, magic_len, szBy, Nat.mul_add]
  omega
/-! ### What is written can be read -/
theorem ok_all {l : List It} (hc : CheckP l) (hB : ∀ it ∈ l, VaB it.val) (hI : ∀ it ∈ l, IdsB it.val) : ∀ it ∈ l, ItOk it := fun it hit => it_ok (fine_of hc it hit) (hB it hit) (hI it hit)
theorem enc_eq {l : List It} (hc : CheckP l) : encB l = magicB ++ (itemsE l ++ leB (sumB (bodyB l)) 8) := by rw [encB]; rw (occs := .pos [1]) [bodyB_itemsE hc]; rw [List.append_assoc]
theorem enc_apart {l m : List It} (hl : CheckP l) (hm : CheckP m) (ol : ∀ it ∈ l, ItOk it) (om : ∀ it ∈ m, ItOk it) {r : List UInt8} (h : encB l ++ r = encB m) : l = m ∧ r = [] := by
  rw [enc_eq hl, enc_eq hm] at h
  have h1 : itemsE l ++ (leB (sumB (bodyB l)) 8 ++ r) = itemsE m ++ leB (sumB (bodyB m)) 8 := by
    have := congrArg (List.drop magicB.length) h
    simpa only [List.append_assoc, List.drop_left] using this
  have h2 := itemsP_bwd (leB (sumB (bodyB l)) 8 ++ r) ol
  rw [h1, itemsP_bwd _ om] at h2
  simp only [Option.some.injEq, Prod.mk.injEq] at h2
  refine ⟨h2.1.symm, ?_⟩
  have := congrArg List.length h2.2
  simp only [List.length_append, leB_len] at this
  exact List.eq_nil_of_length_eq_zero (by omega)
theorem take_apart {l m : List It} (hl : CheckP l) (hm : CheckP m) (ol : ∀ it ∈ l, ItOk it) (om : ∀ it ∈ m, ItOk it) (n : Nat) (hn : n = min (encB l).length (encB m).length) : (encB l).take n = (encB m).take n ↔ l = m := by
  constructor
  · intro h
    rcases Nat.le_total (encB l).length (encB m).length with hle | hle
    · rw [Nat.min_eq_left hle] at hn
      rw [hn, List.take_length] at h
      exact (enc_apart hl hm ol om (r := (encB m).drop (encB l).length) (by rw (occs := .pos [1]) [h]; exact List.take_append_drop _ _)).1
    · rw [Nat.min_eq_right hle] at hn
      rw [hn, List.take_length] at h
      exact (enc_apart hm hl om ol (r := (encB l).drop (encB m).length) (by rw (occs := .pos [1]) [← h]; exact List.take_append_drop _ _)).1.symm
  · rintro rfl; rfl
theorem dec_less {l : List It} (hl : CheckP l) (ol : ∀ it ∈ l, ItOk it) {n : Nat} (hn : n < (encB l).length) : decP ((encB l).take n) = none := by
  cases h : decP ((encB l).take n) with
  | none => rfl
  | some m =>
    exfalso
    obtain ⟨om, hm, e⟩ := decP_some h
    have := (enc_apart hm hl om ol (r := (encB l).drop n) (by rw [← e, List.take_append_drop])).2
    have h2 := congrArg List.length this
    rw [List.length_drop, List.length_nil] at h2
    omega
theorem dec_more {l : List It} (hl : CheckP l) (ol : ∀ it ∈ l, ItOk it) {r : List UInt8} (hr : r ≠ []) : decP (encB l ++ r) = none := by
  cases h : decP (encB l ++ r) with
  | none => rfl
  | some m =>
    exfalso
    obtain ⟨om, hm, e⟩ := decP_some h
    exact hr (enc_apart hl hm ol om e).2
/-! ### What may be compared -/
theorem sa_of {it : It} (h : FineP it) (hB : VaB it.val) : SaB it.val := by
  refine ⟨hB, fun z hz => ?_⟩
  obtain ⟨_, _, _, _, h5, h6⟩ := h
  by_cases hk : it.val.kind = 5
  · exact ((ris_len (h6.2.2.2.2.1 hk).2.1).2 z hz).2.1
  · have := h5.2.2.2.2.1.resolve_left hk
    rw [empty_of this] at hz
    cases hz
theorem sa_all {l : List It} (hc : CheckP l) (hB : ∀ it ∈ l, VaB it.val) : ∀ it ∈ l, SaB it.val := fun it hit => sa_of (fine_of hc it hit) (hB it hit)
end Go.Proofs.Ytpnmhldaaaemeaa.Snp
