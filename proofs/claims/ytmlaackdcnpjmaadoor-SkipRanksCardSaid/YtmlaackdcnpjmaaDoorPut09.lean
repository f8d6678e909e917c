/- Chapter 09: Put. Printed by gen_put09.py. -/
import Derived.Test.YtmlaackdcnpjmaaDoorPutR09
import Derived.Test.YtmlaackdcnpjmaaDoorTz09
import Derived.Test.YtmlaackdcnpjmaaDoorSip
namespace Go.Proofs.YtmlaackdcnpjmaaDoor.Skp
open Go Go.RowKit Go.Proofs.YtmlaackdcnpjmaaDoor.Pin Go.Proofs.YtmlaackdcnpjmaaDoor.Flt Go.Proofs.YtmlaackdcnpjmaaDoor.Uw
/-- a new node's cells -/
abbrev NW (c : Sc) (H : Nat) : Array Value := #[.string c.1, .float .f64 c.2, .int .i64 (H : Int), .pointer none, .int .i64 0, .pointer none, .int .i64 0, .pointer none, .int .i64 0, .pointer none, .int .i64 0, .pointer none, .int .i64 0, .pointer none, .int .i64 0, .pointer none, .int .i64 0, .pointer none, .int .i64 0, .pointer none, .int .i64 0, .pointer none, .int .i64 0, .pointer none, .int .i64 0, .pointer none, .int .i64 0, .pointer none, .int .i64 0, .pointer none, .int .i64 0, .pointer none, .int .i64 0, .pointer none, .int .i64 0, .pointer none, .int .i64 0, .pointer none, .int .i64 0, .pointer none, .int .i64 0, .pointer none, .int .i64 0, .pointer none, .int .i64 0, .pointer none, .int .i64 0, .pointer none, .int .i64 0, .pointer none, .int .i64 0, .pointer none, .int .i64 0, .pointer none, .int .i64 0, .pointer none, .int .i64 0, .pointer none, .int .i64 0, .pointer none, .int .i64 0, .pointer none, .int .i64 0, .pointer none, .int .i64 0, .pointer none, .int .i64 0]
/-- a node of noughts -/
abbrev ZN : Array Value := #[.string ⟨#[]⟩, .float .f64 0, .int .i64 0, .pointer none, .int .i64 0, .pointer none, .int .i64 0, .pointer none, .int .i64 0, .pointer none, .int .i64 0, .pointer none, .int .i64 0, .pointer none, .int .i64 0, .pointer none, .int .i64 0, .pointer none, .int .i64 0, .pointer none, .int .i64 0, .pointer none, .int .i64 0, .pointer none, .int .i64 0, .pointer none, .int .i64 0, .pointer none, .int .i64 0, .pointer none, .int .i64 0, .pointer none, .int .i64 0, .pointer none, .int .i64 0, .pointer none, .int .i64 0, .pointer none, .int .i64 0, .pointer none, .int .i64 0, .pointer none, .int .i64 0, .pointer none, .int .i64 0, .pointer none, .int .i64 0, .pointer none, .int .i64 0, .pointer none, .int .i64 0, .pointer none, .int .i64 0, .pointer none, .int .i64 0, .pointer none, .int .i64 0, .pointer none, .int .i64 0, .pointer none, .int .i64 0, .pointer none, .int .i64 0, .pointer none, .int .i64 0, .pointer none, .int .i64 0]
theorem zero_node (W : World) : (zeroValue 64).run Tryd.prog W = .ok (.agg ZN) W := by kernel_rfl
def padL : List Value := (List.replicate 32 [Value.pointer none, Value.int .i64 0]).flatten
theorem nw_pad (c : Sc) (H : Nat) : NW c H = ([Value.string c.1, .float .f64 c.2, .int .i64 (H : Int)] ++ padL).toArray := rfl
theorem nw_link (c : Sc) (H : Nat) (h : Nat) (hh : h < 32) : (NW c H)[3 + h * 2]? = some (.pointer none) ∧ (NW c H)[3 + h * 2 + 1]? = some (.int .i64 0) := by
  rw [nw_pad]
  have hl : ∀ cs ∈ List.replicate 32 [Value.pointer none, Value.int .i64 0], cs.length = 2 := fun cs h => by rw [(List.mem_replicate.1 h).2]; rfl
  have h0 := flat_get hl h 0 (by omega)
  have h1 := flat_get hl h 1 (by omega)
  have hr : (List.replicate 32 [Value.pointer none, Value.int .i64 0])[h]? = some [Value.pointer none, Value.int .i64 0] := by rw [List.getElem?_replicate, if_pos hh]
  rw [hr] at h0 h1
  have e : ∀ i, ([Value.string c.1, .float .f64 c.2, .int .i64 (H : Int)] ++ padL).toArray[3 + i]? = padL[i]? := fun i => by
    rw [List.getElem?_toArray, List.getElem?_append_right (by simp)]
    congr 1
    simp
  constructor
  · rw [e, padL]
    rw [Nat.add_zero] at h0
    rw [h0]; rfl
  · rw [show 3 + h * 2 + 1 = 3 + (h * 2 + 1) by omega, e, padL, h1]; rfl
theorem nw_size (c : Sc) (H : Nat) : (NW c H).size = 67 := rfl
theorem run_store_F (P : Program) (w : World) (a : Addr) (m : Mode) (k : FloatKind) (b : Nat) : (store a (.float k b) m).run P w = stored P w a (.float k b) m := run_store P w a _ m rfl
attribute [local go_sem high] run_store_F
theorem run_add0 {x y : Nat} (h : FloatKind.f64.format.add x 0 = some y) (t : TypeId) (W : World) : (binOp .add t (.float .f64 x) (.float .f64 0)).run Tryd.prog W = .ok (.float .f64 y) W := by
  simp [binOp, Op.floatArith, h]
set_option maxHeartbeats 4000000 in
set_option maxRecDepth 100000 in
theorem put_bad {own : Nat → Prop} {s seed n : Nat} {bl ht : Nat → Nat} {mem : Nat → Sc} (m : Sc) (w : World) (hS : Sk w own s seed n bl ht mem) (hm : fEq m.2 m.2 = false ∨ 65536 < m.1.size) :
    Calls Tryd.prog 21 #[.pointer (some ⟨s, 0, none⟩), scV m] w fun e w' => e = .returned (.tuple #[.bool false, .int .i64 1]) ∧ Below w.heap.size w w' := by
  have HG := Lib.hid (fun W (hW : Below w.heap.size w W) => gone_no s (bl 0) W (hS.below hW).head)
  have HB0 := Lib.hid ((Below.refl w.heap.size w).alloc (Nat.le_refl _) (.cells #[.string m.1, .float .f64 m.2] 31))
  have HN := Lib.hid (fun W => nan_any m.2 W)
  clear hS
  cases h : fEq m.2 m.2 with
  | false =>
    rw [h] at HN
    clear h hm
    go_enter Tryd.func21, Tryd.ntmps21
    go_wp2_with fail
    refine (HG.out _ HB0.out).mono ?_
    rintro e w' ⟨rfl, rfl⟩
    go_wp2_with fail
    refine (HN.out _).mono ?_
    rintro e w' ⟨rfl, rfl⟩
    go_wp2_with fail
    go_ret2
    exact ⟨rfl, HB0.out⟩
  | true =>
    rw [h] at HN
    have hsz : 65536 < m.1.size := by
      rcases hm with k | k
      · rw [h] at k; cases k
      · exact k
    have hgt : (65536 : Int) < (m.1.size : Int) := by omega
    clear h hm
    go_enter Tryd.func21, Tryd.ntmps21
    go_wp2_with fail
    refine (HG.out _ HB0.out).mono ?_
    rintro e w' ⟨rfl, rfl⟩
    go_wp2_with fail
    refine (HN.out _).mono ?_
    rintro e w' ⟨rfl, rfl⟩
    go_wp2_with fail
    go_ret2
    exact ⟨rfl, HB0.out⟩
set_option maxHeartbeats 4000000 in
set_option maxRecDepth 100000 in
theorem put_dup {own : Nat → Prop} {s seed n : Nat} {bl ht : Nat → Nat} {mem : Nat → Sc} (m : Sc) (P : Nat) (w : World) (hS : Sk w own s seed n bl ht mem) (hnum : Num m.2) (h64 : m.2 < 2 ^ 64) (hsz : m.1.size ≤ 65536) (hP : P ≤ n)
    (hq : ∀ p, 0 < p → p ≤ n → (lessB (mem p) (nrm m) = true ↔ p ≤ P)) (hit : hitB n mem P (nrm m) = true) :
    Calls Tryd.prog 21 #[.pointer (some ⟨s, 0, none⟩), scV m] w fun e w' => e = .returned (.tuple #[.bool false, .int .i64 0]) ∧ Below w.heap.size w w' := by
  have HG := Lib.hid (fun W (hW : Below w.heap.size w W) => gone_no s (bl 0) W (hS.below hW).head)
  have HB0 := Lib.hid ((Below.refl w.heap.size w).alloc (Nat.le_refl _) (.cells #[.string m.1, .float .f64 m.2] 31))
  have HN := Lib.hid (fun W => nan_any m.2 W)
  have hfe : fEq m.2 m.2 = true := by unfold fEq; rw [(num_iff m.2).1 hnum]; rfl
  rw [hfe] at HN
  have hle : ¬ (65536 : Int) < (m.1.size : Int) := by omega
  obtain ⟨y, hy⟩ : ∃ y, y = (nrm m).2 := ⟨_, rfl⟩
  have hadd : ∀ W, (binOp .add 29 (.float .f64 m.2) (.float .f64 0)).run Tryd.prog W = .ok (.float .f64 y) W := run_add0 (by rw [hy]; exact add_zero h64 hnum) _
  have HFN := Lib.hid (fun W (hW : Below w.heap.size w W) => find_any (nrm m) P W (hS.below hW) hP hq)
  rw [hit] at HFN
  have hc : scV (nrm m) = .agg #[.string m.1, .float .f64 y] := by rw [hy]; rfl
  rw [hc] at HFN
  have HB3 := Lib.hid ((Below.refl w.heap.size w).alloc (Nat.le_refl _) (.cells #[.string m.1, .float .f64 y] 31))
  clear hS hnum h64 hsz hP hq hit hfe hc hy
  go_enter Tryd.func21, Tryd.ntmps21
  go_wp2_with fail
  refine (HG.out _ HB0.out).mono ?_
  rintro e w' ⟨rfl, rfl⟩
  go_wp2_with fail
  refine (HN.out _).mono ?_
  rintro e w' ⟨rfl, rfl⟩
  go_wp2_with fail
  refine (HFN.out _ HB3.out).mono ?_
  rintro e w1 ⟨⟨A, K, rfl, hW⟩, hb1⟩
  have HB1 := Lib.hid (HB3.out.trans (hb1.mono HB3.out.size))
  have HW := Lib.hid hW
  have HAS := Lib.hid hW.1
  have HKS := Lib.hid hW.2.1
  have HOA := Lib.hid hW.oneA
  have HOK := Lib.hid hW.oneK
  clear hb1 hW
  go_wp2_with (first | (refine wpList_store_into rfl 65 (.tmp 6) (.tmp 34) (by rfl) w1.heap.size A (by rfl) (by rfl) 65 _ (two_new w1 _ _).1 (by rw [HAS.out]; exact info_nodes) (by rw [HAS.out]; rfl) HOA.out ?_; intro W1 hI1) | (refine wpList_store_into rfl 66 (.tmp 7) (.tmp 35) (by rfl) (w1.heap.size + 1) K (by rfl) (by rfl) 66 _ ((hI1.other _ (by omega)).trans (two_new w1 _ _).2) (by rw [HKS.out]; exact info_ints) (by rw [HKS.out]; rfl) HOK.out ?_; intro W2 hI2; have HB2 := Lib.hid (hI2.below (hI1.below (below_two HB1.out HB1.out.size _ _) HB1.out.size) (by have := HB1.out.size; omega)); clear hI1 hI2))
  go_ret2
  exact ⟨rfl, HB2.out⟩
/-- a node put in -/
def PutNew (w w' : World) (own : Nat → Prop) (s seed n : Nat) (bl ht : Nat → Nat) (mem : Nat → Sc) (P : Nat) (c : Sc) : Prop :=
  ∃ bx H, w.heap.size ≤ bx ∧ Sk w' (fun k => own k ∨ k = bx) s seed (n + 1) (ins P bl bx) (ins P ht H) (ins P mem c) ∧ Frm own w w'
set_option maxHeartbeats 4000000 in
set_option maxRecDepth 100000 in
theorem put_new {own : Nat → Prop} {s seed n : Nat} {bl ht : Nat → Nat} {mem : Nat → Sc} (m : Sc) (P : Nat) (w : World) (hS : Sk w own s seed n bl ht mem) (hnum : Num m.2) (h64 : m.2 < 2 ^ 64) (hsz : m.1.size ≤ 65536) (hP : P ≤ n)
    (hq : ∀ p, 0 < p → p ≤ n → (lessB (mem p) (nrm m) = true ↔ p ≤ P)) (hit : hitB n mem P (nrm m) = false) (hT : Tab w) (h64s : seed < 2 ^ 64) (hfew : n < 1099511627776) :
    Calls Tryd.prog 21 #[.pointer (some ⟨s, 0, none⟩), scV m] w fun e w' => e = .returned (.tuple #[.bool true, .int .i64 0]) ∧ PutNew w w' own s seed n bl ht mem P (nrm m) := by
  have HG := Lib.hid (fun W (hW : Below w.heap.size w W) => gone_no s (bl 0) W (hS.below hW).head)
  have HB0 := Lib.hid ((Below.refl w.heap.size w).alloc (Nat.le_refl _) (.cells #[.string m.1, .float .f64 m.2] 31))
  have HN := Lib.hid (fun W => nan_any m.2 W)
  have hfe : fEq m.2 m.2 = true := by unfold fEq; rw [(num_iff m.2).1 hnum]; rfl
  rw [hfe] at HN
  have hle : ¬ (65536 : Int) < (m.1.size : Int) := by omega
  obtain ⟨y, hy⟩ : ∃ y, y = (nrm m).2 := ⟨_, rfl⟩
  have hadd : ∀ W, (binOp .add 29 (.float .f64 m.2) (.float .f64 0)).run Tryd.prog W = .ok (.float .f64 y) W := run_add0 (by rw [hy]; exact add_zero h64 hnum) _
  have HFN := Lib.hid (fun W (hW : Below w.heap.size w W) => find_any (nrm m) P W (hS.below hW) hP hq)
  rw [hit] at HFN
  have hc : scV (nrm m) = .agg #[.string m.1, .float .f64 y] := by rw [hy]; rfl
  rw [hc] at HFN
  have HB3 := Lib.hid ((Below.refl w.heap.size w).alloc (Nat.le_refl _) (.cells #[.string m.1, .float .f64 y] 31))
  have HS := Lib.hid hS
  have HP := Lib.hid hP
  have HT := Lib.hid hT
  have HFW := Lib.hid hfew
  have hsd : U (BitVec.ofNat 64 seed) = .int .u64 (seed : Int) := (U_lit seed (by have : (2 : Nat) ^ 64 = 18446744073709551616 := by decide
                                                                                  omega)).symm
  have hon : U 1#64 = .int .u64 1 := (U_lit 1 (by omega)).symm
  have HSIP := Lib.hid (fun W => Sip.sip_any (BitVec.ofNat 64 seed) 1#64 m.1 W (by omega))
  rw [hsd, hon] at HSIP
  have HY := Lib.hid hy
  clear hsd hon hT h64s hfew
  clear hS hnum h64 hsz hP hq hit hfe hc hy
  go_enter Tryd.func21, Tryd.ntmps21
  go_wp2_with fail
  refine (HG.out _ HB0.out).mono ?_
  rintro e w' ⟨rfl, rfl⟩
  go_wp2_with fail
  refine (HN.out _).mono ?_
  rintro e w' ⟨rfl, rfl⟩
  go_wp2_with fail
  refine (HFN.out _ HB3.out).mono ?_
  rintro e w1 ⟨⟨A, K, rfl, hW⟩, hb1⟩
  have HB1 := Lib.hid (HB3.out.trans (hb1.mono HB3.out.size))
  have HW := Lib.hid hW
  have HAS := Lib.hid hW.1
  have HKS := Lib.hid hW.2.1
  have HOA := Lib.hid hW.oneA
  have HOK := Lib.hid hW.oneK
  have hb3 := (hb1.block w.heap.size (by simp)).trans (heap_alloc_new w (.cells #[.string m.1, .float .f64 y] 31))
  have hbx := (Array.getElem?_eq_some_iff.1 hb3).1
  have HBB := Lib.hid hb3
  have HBL := Lib.hid hbx
  clear hb1 hW hb3 hbx
  go_wp2_with (first | (refine wpList_store_into rfl 65 (.tmp 6) (.tmp 34) (by rfl) w1.heap.size A (by rfl) (by rfl) 65 _ (two_new w1 _ _).1 (by rw [HAS.out]; exact info_nodes) (by rw [HAS.out]; rfl) HOA.out ?_; intro W1 hI1) | (refine wpList_store_into rfl 66 (.tmp 7) (.tmp 35) (by rfl) (w1.heap.size + 1) K (by rfl) (by rfl) 66 _ ((hI1.other _ (by omega)).trans (two_new w1 _ _).2) (by rw [HKS.out]; exact info_ints) (by rw [HKS.out]; rfl) HOK.out ?_; intro W2 hI2; have HB2 := Lib.hid (hI2.below (hI1.below (below_two HB1.out HB1.out.size _ _) HB1.out.size) (by have := HB1.out.size; omega)); have G6 := Lib.hid ((hI2.other _ (by omega)).trans hI1.at_); have G7 := Lib.hid hI2.at_; have G3 := Lib.hid ((hI2.other _ (by have := HBL.out; omega)).trans ((hI1.other _ (by have := HBL.out; omega)).trans ((Lib.alloc_old _ _ _ (by have := HBL.out; simp; omega)).trans ((Lib.alloc_old _ _ _ HBL.out).trans HBB.out)))); have HZ2 := Lib.hid (show W2.heap.size = w1.heap.size + 2 by (rw [hI2.size, hI1.size]; simp)); clear hI1 hI2))
  obtain ⟨B3, hB3⟩ : ∃ B3, B3 = w.heap.size := ⟨_, rfl⟩
  rw [← hB3] at G3 ⊢
  have HB3E := Lib.hid hB3
  have HTB : Hid (∀ W, Grow.Grows W2 W → W.heap[B3]? = some (.cells #[.string m.1, .float .f64 y] 31 (0, 0)) ∧ W.cell? ⟨s, 0, none⟩ = some (.int .u64 (seed : Int)) ∧ Tab W) := Lib.hid (fun W hR => by
    have hb := HB2.out.trans (hR.mono HB2.out.size)
    refine ⟨hR.block G3.out, ?_, HT.out.below hb⟩
    have ht := (hb.block s HS.out.slt).trans HS.out.top
    rw [Lib.cell_of_heap ht]; rfl)
  clear hB3
  refine Grow.wp_region_grow [fun v _ => v = .agg #[.string m.1, .float .f64 y], fun v _ => v = .pointer (some ⟨s, 0, none⟩), fun v _ => v = .pointer (some ⟨s, 0, none⟩), fun v _ => v = .pointer (some ⟨s, 0, none⟩), fun v _ => v = .int .u64 (seed : Int), fun v _ => v = .pointer (some ⟨B3, 0, none⟩), fun v _ => v = .string m.1,
      fun v _ => ∃ x, v = U x, fun v _ => ∃ k : Nat, k ≤ 64 ∧ v = .int .i64 (k : Int), fun v _ => ∃ k : Nat, k ≤ 32 ∧ v = .int .i64 (k : Int), fun v _ => ∃ k : Nat, 1 ≤ k ∧ k ≤ 33 ∧ v = .int .i64 (k : Int), fun v _ => ∃ k : Nat, 1 ≤ k ∧ k ≤ 32 ∧ v = .int .i64 (k : Int),
      fun v _ => ∃ k : Nat, 1 ≤ k ∧ k ≤ 32 ∧ v = .agg (NW (m.1, y) k), fun v W => ∃ bx k : Nat, 1 ≤ k ∧ k ≤ 32 ∧ v = .pointer (some ⟨bx, 0, none⟩) ∧ W2.heap.size ≤ bx ∧ W.heap[bx]? = some (.cells (NW (m.1, y) k) 64 (0, 0)),
      fun v W => ∃ bx k : Nat, 1 ≤ k ∧ k ≤ 32 ∧ v = .pointer (some ⟨bx, 0, none⟩) ∧ W2.heap.size ≤ bx ∧ W.heap[bx]? = some (.cells (NW (m.1, y) k) 64 (0, 0))]
    [[], [], [1], [2], [3], [], [5], [4, 6], [7], [8], [9], [10], [0, 11], [12], [13]] (by kernel_rfl) (by kernel_rfl) ?_ ?_ ?_
  · intro V hV
    have hst1 : ∀ p : Value → Prop, Grow.Stable (fun v _ => p v) := fun p v w w' h _ => h
    have hst2 : Grow.Stable (fun v W => ∃ bx k : Nat, 1 ≤ k ∧ k ≤ 32 ∧ v = .pointer (some ⟨bx, 0, none⟩) ∧ W2.heap.size ≤ bx ∧ W.heap[bx]? = some (.cells (NW (m.1, y) k) 64 (0, 0))) := fun v w w' ⟨bx, k, h1, h2, h3, h4, h5⟩ hg => ⟨bx, k, h1, h2, h3, h4, hg.block h5⟩
    simp only [List.mem_cons, List.not_mem_nil, or_false] at hV
    rcases hV with rfl | rfl | rfl | rfl | rfl | rfl | rfl | rfl | rfl | rfl | rfl | rfl | rfl | rfl | rfl
    all_goals first | exact hst2 | exact hst1 _
  · refine .cons (fun u w' hR hF => Grow.gop_n rfl ?_) ?_
    · have h0 := (HTB.out w' hR).1
      have e0 : w'.cell? ⟨B3, 0, none⟩ = some (.string m.1) := by rw [Lib.cell_of_heap h0]; rfl
      have e1 : w'.cell? ⟨B3, 1, none⟩ = some (.float .f64 y) := by rw [Lib.cell_of_heap h0]; rfl
      clear h0
      go_simp
      exact Grow.Grows.refl _
    refine .cons (fun u w' hR hF => Grow.gop_n rfl ?_) ?_
    · go_simp
      exact Grow.Grows.refl _
    refine .cons (fun u w' hR hF => Grow.gop_n rfl ?_) ?_
    · have f0 : u 1 = .pointer (some ⟨s, 0, none⟩) := hF.1
      go_simp
      exact Grow.Grows.refl _
    refine .cons (fun u w' hR hF => Grow.gop_n rfl ?_) ?_
    · have f0 : u 2 = .pointer (some ⟨s, 0, none⟩) := hF.1
      go_simp
      exact Grow.Grows.refl _
    refine .cons (fun u w' hR hF => Grow.gop_n rfl ?_) ?_
    · have f0 : u 3 = .pointer (some ⟨s, 0, none⟩) := hF.1
      have e0 := (HTB.out w' hR).2.1
      go_simp
      exact Grow.Grows.refl _
    refine .cons (fun u w' hR hF => Grow.gop_n rfl ?_) ?_
    · go_simp
      exact Grow.Grows.refl _
    refine .cons (fun u w' hR hF => Grow.gop_n rfl ?_) ?_
    · have f0 : u 5 = .pointer (some ⟨B3, 0, none⟩) := hF.1
      have h0 := (HTB.out w' hR).1
      have e0 : w'.cell? ⟨B3, 0, none⟩ = some (.string m.1) := by rw [Lib.cell_of_heap h0]; rfl
      clear h0
      go_simp
      exact Grow.Grows.refl _
    refine .cons (fun u w' hR hF => Grow.gop_n rfl ?_) ?_
    · have f0 : u 4 = .int .u64 (seed : Int) := hF.1
      have f1 : u 6 = .string m.1 := hF.2.1
      have hS2 := HSIP.out w'
      clear hF
      go_simp
      exact hS2.mono (by rintro e w'' ⟨rfl, hb⟩; exact ⟨_, rfl, hb, _, rfl⟩)
    refine .cons (fun u w' hR hF => Grow.gop_n rfl ?_) ?_
    · obtain ⟨x, f0⟩ := hF.1
      have hS2 := tz_any x w' (HTB.out w' hR).2.2
      clear hF
      go_simp
      exact hS2.mono (by rintro e w'' ⟨⟨k, hk, rfl⟩, rfl⟩; exact ⟨_, rfl, Grow.Grows.refl _, k, hk, rfl⟩)
    refine .cons (fun u w' hR hF => Grow.gop_n rfl ?_) ?_
    · obtain ⟨k, hk, f0⟩ := hF.1
      have HK2 := Lib.hid hk
      clear hF hk
      go_simp
      exact ⟨Grow.Grows.refl _, k / 2, by have := HK2.out; omega, by rw [IntKind.wrap_i64]; have := HK2.out; omega⟩
    refine .cons (fun u w' hR hF => Grow.gop_n rfl ?_) ?_
    · obtain ⟨k, hk, f0⟩ := hF.1
      have HK2 := Lib.hid hk
      clear hF hk
      go_simp
      exact ⟨Grow.Grows.refl _, 1 + k, by omega, by have := HK2.out; omega, by first | (rw [IntKind.wrap_i64]; have := HK2.out; omega) | (have := HK2.out; omega)⟩
    refine .cons (fun u w' hR hF => Grow.gop_n rfl ?_) ?_
    · obtain ⟨k, hk1, hk2, f0⟩ := hF.1
      have HK1 := Lib.hid hk1
      have HK2 := Lib.hid hk2
      clear hF hk1 hk2
      go_simp
      exact ⟨Grow.Grows.refl _, min k 32, by have := HK1.out; omega, by omega, by split <;> omega⟩
    refine .cons (fun u w' hR hF => Grow.gop_n rfl ?_) ?_
    · have f0 : u 0 = .agg #[.string m.1, .float .f64 y] := hF.1
      obtain ⟨k, hk1, hk2, f1⟩ := hF.2.1
      have hzn := zero_node w'
      have HK1 := Lib.hid hk1
      have HK2 := Lib.hid hk2
      clear hF hk1 hk2
      go_simp
      exact ⟨Grow.Grows.refl _, k, HK1.out, HK2.out, rfl⟩
    refine .cons (fun u w' hR hF => Grow.gop_n rfl ?_) ?_
    · obtain ⟨k, hk1, hk2, f0⟩ := hF.1
      have HK1 := Lib.hid hk1
      have HK2 := Lib.hid hk2
      clear hF hk1 hk2
      go_simp
      exact ⟨Grow.Grows.alloc _ _, w'.heap.size, k, HK1.out, HK2.out, rfl, hR.size, heap_alloc_new _ _⟩
    refine .cons (fun u w' hR hF => Grow.gop_n rfl ?_) .nil
    obtain ⟨bx, k, hk1, hk2, f0, h4, h5⟩ := hF.1
    have HH := Lib.hid (show 1 ≤ k ∧ k ≤ 32 ∧ W2.heap.size ≤ bx ∧ w'.heap[bx]? = some (.cells (NW (m.1, y) k) 64 (0, 0)) from ⟨hk1, hk2, h4, h5⟩)
    clear hF hk1 hk2 h4 h5
    go_simp
    exact ⟨Grow.Grows.refl _, bx, k, HH.out.1, HH.out.2.1, rfl, HH.out.2.2.1, HH.out.2.2.2⟩
  · intro W3 hR
    have HB4 := Lib.hid (HB2.out.trans (hR.mono HB2.out.size))
    have HR3 := Lib.hid hR
    clear hR
    refine .cons (fun x0 f0 => ?_)
    refine .cons (fun x1 f1 => ?_)
    refine .cons (fun x2 f2 => ?_)
    refine .cons (fun x3 f3 => ?_)
    refine .cons (fun x4 f4 => ?_)
    refine .cons (fun x5 f5 => ?_)
    refine .cons (fun x6 f6 => ?_)
    refine .cons (fun x7 f7 => ?_)
    refine .cons (fun x8 f8 => ?_)
    refine .cons (fun x9 f9 => ?_)
    refine .cons (fun x10 f10 => ?_)
    refine .cons (fun x11 f11 => ?_)
    refine .cons (fun x12 f12 => ?_)
    refine .cons (fun x13 f13 => ?_)
    refine .cons (fun x14 f14 => ?_)
    refine .nil ?_
    clear f0 f1 f2 f3 f4 f5 f6 f7 f8 f9 f10 f11 f12 f13
    obtain ⟨bx, H, h1, h2, rfl, h4, h5⟩ := f14
    have HH1 := Lib.hid h1
    have HH2 := Lib.hid h2
    have HBX := Lib.hid (show w1.heap.size + 2 ≤ bx by (rw [← HZ2.out]; exact h4))
    have HNX := Lib.hid h5
    clear h1 h2 h4 h5
    have G6' : Hid (W3.heap[w1.heap.size]? = some (.cells A 65 (0, 0))) := Lib.hid (HR3.out.block G6.out)
    have G7' : Hid (W3.heap[w1.heap.size + 1]? = some (.cells K 66 (0, 0))) := Lib.hid (HR3.out.block G7.out)
    have HS3 := Lib.hid (HS.out.below HB4.out)
    have hlt1 : w.heap.size ≤ w1.heap.size := HB1.out.size
    have HL1 := Lib.hid hlt1
    clear hlt1
    have HBN : Hid (∀ p, p ≤ n → bl p < w1.heap.size ∧ bl p ≠ bx) := Lib.hid (fun p hp => by have := HS.out.lt hp; have := HL1.out; have := HBX.out; omega)
    have HP0 : Hid (PutR W3 (fun k => own k ∨ k = bx) n bl ht P bx H 0 W3) := Lib.hid
      ⟨Frm.refl _, rfl, fun _ _ _ => rfl, HS3.out.node, ⟨_, HNX.out, rfl⟩, fun _ _ _ => rfl, fun h hh => absurd hh (Nat.not_lt_zero _), fun h _ hh => ⟨HS3.out.lvl h hh, by
        have := nw_link (m.1, y) H h hh
        unfold cel
        rw [Lib.cell_of_heap HNX.out, Lib.cell_of_heap HNX.out]
        exact this⟩⟩
    go_simp
    go_wp2_with fail
    go_loopw [52] (fun hh wr => ∃ j : Nat, j ≤ 32 ∧ hh = .int .i64 (j : Int) ∧ Hid (PutR W3 (fun k => own k ∨ k = bx) n bl ht P bx H j wr)) (fun hh _ => 32 - (intOf hh).toNat)
    case atStart => exact ⟨0, by omega, rfl, HP0⟩
    case round =>
      obtain ⟨j, hj, rfl, HPR⟩ := hrel
      clear HP0
      by_cases hlt : j < 32
      · have hj32 : (j : Int) < 32 := by omega
        obtain ⟨a, hla, hA, hK⟩ := HW.out.2.2 j (Nat.zero_le _) hlt
        obtain ⟨a', hla', _, hK0⟩ := HW.out.2.2 0 (Nat.le_refl _) (by omega)
        obtain rfl : a' = P := lst_low (fun p hp => (HS.out.htb p (Nat.le_trans hp HP.out)).1) hla'
        have han : a ≤ n := Nat.le_trans hla.1 HP.out
        have k6 := (HPR.out.keep w1.heap.size (by have := HBX.out; omega) (fun p hp => by have := (HBN.out p hp).1; omega)).trans G6'.out
        have k7 := (HPR.out.keep (w1.heap.size + 1) (by have := HBX.out; omega) (fun p hp => by have := (HBN.out p hp).1; omega)).trans G7'.out
        have c6 : wr.cell? ⟨w1.heap.size, j, none⟩ = some (.pointer (some ⟨bl a, 0, none⟩)) := by rw [Lib.cell_of_heap k6]; exact hA
        have c70 : wr.cell? ⟨w1.heap.size + 1, 0, none⟩ = some (.int .i64 (a' : Int)) := by rw [Lib.cell_of_heap k7]; exact hK0
        have c7 : wr.cell? ⟨w1.heap.size + 1, j, none⟩ = some (.int .i64 (a : Int)) := by rw [Lib.cell_of_heap k7]; exact hK
        have cH : wr.cell? ⟨bx, 2, none⟩ = some (.int .i64 (H : Int)) := (HPR.out.low bx 2 (by omega)).trans (by unfold cel; rw [Lib.cell_of_heap HNX.out]; rfl)
        obtain ⟨lv, x1, x2⟩ := HPR.out.todo j (Nat.le_refl _) hlt
        obtain ⟨to, sp, c1, c2, hlv⟩ := (lv a han hla.2.1).vals
        have c1' : wr.cell? ⟨bl a, 3 + j * 2, none⟩ = some (.pointer to) := c1
        have c2' : wr.cell? ⟨bl a, 3 + j * 2 + 1, none⟩ = some (.int .i64 sp) := c2
        have f1 := ((HPR.out.node a han).cell (o := 3 + j * 2) (by omega)).2
        have f2 := ((HPR.out.node a han).cell (o := 3 + j * 2 + 1) (by omega)).2
        have hsub : IntKind.i64.wrap ((a' : Int) - (a : Int)) = (a' : Int) - (a : Int) := by rw [IntKind.wrap_i64]; have := hla.1; have := HFW.out; have := HP.out; omega
        have hsub2 : IntKind.i64.wrap ((a' : Int) - (a : Int) + 1) = (a' : Int) - (a : Int) + 1 := by rw [IntKind.wrap_i64]; have := hla.1; have := HFW.out; have := HP.out; omega
        have HLA := Lib.hid hla
        have HC1 := Lib.hid c1
        have HC2 := Lib.hid c2
        have HAN := Lib.hid han
        clear hla hA hK hla' hK0 han k6 k7 lv c1 c2 hlv
        by_cases hjH : j < H
        · have hd : decide (j < H) = true := by simpa using hjH
          have g1 : wr.cell? ⟨bx, 3 + j * 2, none⟩ = some (.pointer none) := x1
          have g2 : wr.cell? ⟨bx, 3 + j * 2 + 1, none⟩ = some (.int .i64 0) := x2
          have f3 := (HPR.out.nodx.cell (o := 3 + j * 2) (by omega)).2
          have f4 := (HPR.out.nodx.cell (o := 3 + j * 2 + 1) (by omega)).2
          have hne := (HBN.out a HAN.out).2
          have HJH := Lib.hid hjH
          clear x1 x2 hjH
          go_wp2_with fail
          refine wp_region_q [0,1,0,0,1,0,0,0] (by kernel_rfl) (by kernel_rfl) ?_
          (refine q_pure_n rfl (fun K hK => ?_); go_simp; refine hK _ _ ?_; clear hK K)
          (refine q_read_n rfl (fun K hK => ?_); go_simp; refine hK _ _ ?_; clear hK K)
          (refine q_pure_n rfl (fun K hK => ?_); go_simp; refine hK _ _ ?_; clear hK K)
          (refine q_pure_n rfl (fun K hK => ?_); go_simp; refine hK _ _ ?_; clear hK K)
          (refine q_read_n rfl (fun K hK => ?_); go_simp; refine hK _ _ ?_; clear hK K)
          (refine q_pure_n rfl (fun K hK => ?_); go_simp; refine hK _ _ ?_; clear hK K)
          (refine q_pure_n rfl (fun K hK => ?_); go_simp; refine hK _ _ ?_; clear hK K)
          (refine q_pure_n rfl (fun K hK => ?_); go_simp; refine hK _ _ ?_; clear hK K)
          refine q_nil ?_
          intro nq
          go_wp2_with fail
          refine wp_region_q [0,0,0,0,0,1,0,0,0,1,0,0,0,0,0,0,0,2] (by kernel_rfl) (by kernel_rfl) ?_
          (refine q_pure_n rfl (fun K hK => ?_); go_simp; refine hK _ _ ?_; clear hK K)
          (refine q_pure_n rfl (fun K hK => ?_); go_simp; refine hK _ _ ?_; clear hK K)
          (refine q_pure_n rfl (fun K hK => ?_); go_simp; refine hK _ _ ?_; clear hK K)
          (refine q_pure_n rfl (fun K hK => ?_); go_simp; refine hK _ _ ?_; clear hK K)
          (refine q_pure_n rfl (fun K hK => ?_); go_simp; refine hK _ _ ?_; clear hK K)
          (refine q_read_n rfl (fun K hK => ?_); go_simp; refine hK _ _ ?_; clear hK K)
          (refine q_pure_n rfl (fun K hK => ?_); go_simp; refine hK _ _ ?_; clear hK K)
          (refine q_pure_n rfl (fun K hK => ?_); go_simp; refine hK _ _ ?_; clear hK K)
          (refine q_pure_n rfl (fun K hK => ?_); go_simp; refine hK _ _ ?_; clear hK K)
          (refine q_read_n rfl (fun K hK => ?_); go_simp; refine hK _ _ ?_; clear hK K)
          (refine q_pure_n rfl (fun K hK => ?_); go_simp; refine hK _ _ ?_; clear hK K)
          (refine q_pure_n rfl (fun K hK => ?_); go_simp; refine hK _ _ ?_; clear hK K)
          (refine q_pure_n rfl (fun K hK => ?_); go_simp; refine hK _ _ ?_; clear hK K)
          (refine q_pure_n rfl (fun K hK => ?_); go_simp; refine hK _ _ ?_; clear hK K)
          (refine q_pure_n rfl (fun K hK => ?_); go_simp; refine hK _ _ ?_; clear hK K)
          (refine q_pure_n rfl (fun K hK => ?_); go_simp; refine hK _ _ ?_; clear hK K)
          (refine q_pure_n rfl (fun K hK => ?_); go_simp; refine hK _ _ ?_; clear hK K)
          (refine q_write_n rfl (fun K hK => ?_); go_simp; refine fun nw => ⟨_, ⟨_, rfl⟩, hK _ _ ?_⟩; clear hK K)
          refine q_nil ?_
          intro nq
          go_wp2_with fail
          refine ⟨⟨j + 1, by omega, by go_num, Lib.hid (PutR.drewN ?_ _)⟩, by simp [intOf]; omega⟩
          exact HPR.out.high hlt HJH.out HP.out HLA.out HS.out.inj (fun p hp => (HBN.out p hp).2) (fun p hp => .inl (HS.out.ownb p hp)) (fun _ => .inr rfl) HS.out.few HC1.out HC2.out (by rw [wrap64_i64, wrap64_i64]) 0
        · have hd : decide (j < H) = false := by simpa using hjH
          have HJH := Lib.hid hjH
          clear x1 x2 hjH cH
          cases to with
          | none =>
            go_wp2_with fail
            refine wp_region_q [0,1,0,0,1,0,0,0] (by kernel_rfl) (by kernel_rfl) ?_
            (refine q_pure_n rfl (fun K hK => ?_); go_simp; refine hK _ _ ?_; clear hK K)
            (refine q_read_n rfl (fun K hK => ?_); go_simp; refine hK _ _ ?_; clear hK K)
            (refine q_pure_n rfl (fun K hK => ?_); go_simp; refine hK _ _ ?_; clear hK K)
            (refine q_pure_n rfl (fun K hK => ?_); go_simp; refine hK _ _ ?_; clear hK K)
            (refine q_read_n rfl (fun K hK => ?_); go_simp; refine hK _ _ ?_; clear hK K)
            (refine q_pure_n rfl (fun K hK => ?_); go_simp; refine hK _ _ ?_; clear hK K)
            (refine q_pure_n rfl (fun K hK => ?_); go_simp; refine hK _ _ ?_; clear hK K)
            (refine q_pure_n rfl (fun K hK => ?_); go_simp; refine hK _ _ ?_; clear hK K)
            refine q_nil ?_
            intro nq
            have cH : wr.cell? ⟨bx, 2, none⟩ = some (.int .i64 (H : Int)) := (HPR.out.low bx 2 (by omega)).trans (by unfold cel; rw [Lib.cell_of_heap HNX.out]; rfl)
            go_wp2_with fail
            refine ⟨⟨j + 1, by omega, by go_num, Lib.hid (PutR.drewN ?_ _)⟩, by simp [intOf]; omega⟩
            exact HPR.out.lowest hlt (by have := HJH.out; omega) HP.out HLA.out HC1.out HC2.out
          | some q =>
            go_wp2_with fail
            refine wp_region_q [0,1,0,0,1,0,0,0] (by kernel_rfl) (by kernel_rfl) ?_
            (refine q_pure_n rfl (fun K hK => ?_); go_simp; refine hK _ _ ?_; clear hK K)
            (refine q_read_n rfl (fun K hK => ?_); go_simp; refine hK _ _ ?_; clear hK K)
            (refine q_pure_n rfl (fun K hK => ?_); go_simp; refine hK _ _ ?_; clear hK K)
            (refine q_pure_n rfl (fun K hK => ?_); go_simp; refine hK _ _ ?_; clear hK K)
            (refine q_read_n rfl (fun K hK => ?_); go_simp; refine hK _ _ ?_; clear hK K)
            (refine q_pure_n rfl (fun K hK => ?_); go_simp; refine hK _ _ ?_; clear hK K)
            (refine q_pure_n rfl (fun K hK => ?_); go_simp; refine hK _ _ ?_; clear hK K)
            (refine q_pure_n rfl (fun K hK => ?_); go_simp; refine hK _ _ ?_; clear hK K)
            refine q_nil ?_
            intro nq
            have cH : wr.cell? ⟨bx, 2, none⟩ = some (.int .i64 (H : Int)) := (HPR.out.low bx 2 (by omega)).trans (by unfold cel; rw [Lib.cell_of_heap HNX.out]; rfl)
            go_wp2_with fail
            refine ⟨⟨j + 1, by omega, by go_num, Lib.hid (PutR.drewN ?_ _)⟩, by simp [intOf]; omega⟩
            exact HPR.out.lower hlt (by have := HJH.out; omega) HP.out HLA.out HS.out.inj (fun p hp => (HBN.out p hp).2) (fun p hp => .inl (HS.out.ownb p hp)) HS.out.few HC1.out HC2.out (by rw [wrap64_i64])
      · obtain rfl : j = 32 := by omega
        have hsx : s ≠ bx := by have := HS.out.slt; have := HL1.out; have := HBX.out; omega
        have htop := (HPR.out.keep s hsx (fun p hp => Ne.symm (HS.out.nes p hp))).trans HS3.out.top
        have ct : wr.cell? ⟨s, 2, none⟩ = some (.int .i64 (n : Int)) := by rw [Lib.cell_of_heap htop]; rfl
        have cf := Lib.frozen_of_heap htop 2
        have hsum : IntKind.i64.wrap ((n : Int) + 1) = (n : Int) + 1 := by rw [IntKind.wrap_i64]; have := HFW.out; omega
        have HSX := Lib.hid hsx
        clear htop hsx hlt
        go_wp2_with fail
        go_ret2
        refine ⟨rfl, bx, H, by have := HL1.out; have := HBX.out; omega, ?_, ?_⟩
        · exact put_done (c := nrm m) HS3.out HP.out HPR.out HSX.out (fun p hp => (HBN.out p hp).2) ⟨HH1.out, HH2.out⟩ (by unfold cel; rw [Lib.cell_of_heap HNX.out]; rfl) (by unfold cel; rw [Lib.cell_of_heap HNX.out, ← HY.out]; rfl) (by unfold cel; rw [Lib.cell_of_heap HNX.out]; rfl) HFW.out
        · have hf : Frm (fun k => own k ∨ k = bx) W3 (wr.setCell ⟨s, 2, none⟩ (.int .i64 ((n : Int) + 1))) := HPR.out.frm.set _ _ (fun _ => .inl HS.out.owns)
          exact (Frm.of_below HB4.out).trans hf (fun x hx ho => by
            rcases ho with ho | ho
            · exact ho
            · have := HL1.out; have := HBX.out; omega)
end Go.Proofs.YtmlaackdcnpjmaaDoor.Skp
