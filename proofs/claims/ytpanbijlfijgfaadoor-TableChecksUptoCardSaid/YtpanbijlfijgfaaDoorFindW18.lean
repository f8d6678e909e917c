/- The walk of table.Find. -/
import Derived.Test.YtpanbijlfijgfaaDoorFind18
namespace Go.Proofs.YtpanbijlfijgfaaDoor.Fnd
open Go.RowKit Go.Sort Go.Proofs.YtpanbijlfijgfaaDoor.Shf Go.Proofs.YtpanbijlfijgfaaDoor.Rws Go.Proofs.YtpanbijlfijgfaaDoor.Low18 Go.Proofs.YtpanbijlfijgfaaDoor.Pin
attribute [local go_sem high] zero_row

theorem rows_size : (Tryd.prog.info? 63).map (·.size) = some rowsC.size := by kernel_rfl
theorem zeros_rows : zeros.size = rowsC.size := by kernel_rfl
theorem rows_one : rowsC.all (·.oneCell') = true := by kernel_rfl
theorem below_grow {B : Nat} {a w : World} (h : Below B a w) (hB : B ≤ w.heap.size) (os : Array Obj) : Below B a (grow w os) :=
  ⟨h.os, h.tape, h.output, by rw [size_grow]; have := h.size; omega, fun k hk => by rw [heap_grow_old w os (by omega)]; exact h.block k hk⟩
theorem tab_grow {w : World} {g : Nat} (h : TabAt w g) (q : Nat) (os : Array Obj) : TabAt (grow (w.drewN q) os) g := by
  obtain ⟨t, h⟩ := h
  have hlt : g < w.heap.size := (Array.getElem?_eq_some_iff.1 h).1
  exact ⟨t, by rw [heap_grow_old _ _ (by exact hlt)]; exact h⟩

abbrev nines0 : Array Value := #[.string ⟨#[]⟩, .int .i64 0, .int .i64 0, .bool false, .bool false, .int .i64 0, .int .i64 0, .bool false, .int .i64 0]
theorem heap_setRow_same {w : World} {g : Nat} {c c' : Array Value} {t : TypeId} {fr : Nat × Nat} (h : w.heap[g]? = some (.cells c t fr)) : (w.setRow g c').heap[g]? = some (.cells c' t fr) := by
  simp only [World.setRow]
  rw [Array.getElem?_modify, if_pos rfl, h]
  rfl
theorem heap_setRow_ne {w : World} {g k : Nat} {c' : Array Value} (h : ¬ g = k) : (w.setRow g c').heap[k]? = w.heap[k]? := by
  simp only [World.setRow]
  rw [Array.getElem?_modify, if_neg h]
theorem setup_tab (w : World) : ((((w.alloc (.cells nines0 54)).alloc (.cells rowsC 63)).alloc (.cells zeros 63)).setRow (w.heap.size + 1 + 1) rowsC).heap[w.heap.size + 1 + 1]? = some (.cells rowsC 63 (0, 0)) := by
  refine heap_setRow_same (c := zeros) ?_
  have := heap_alloc_last ((w.alloc (.cells nines0 54)).alloc (.cells rowsC 63)) (.cells zeros 63)
  simpa using this
theorem setup_res (w : World) : ((((w.alloc (.cells nines0 54)).alloc (.cells rowsC 63)).alloc (.cells zeros 63)).setRow (w.heap.size + 1 + 1) rowsC).heap[w.heap.size]? = some (.cells nines0 54 (0, 0)) := by
  rw [heap_setRow_ne (by omega), Lib.alloc_old _ _ _ (by simp; omega), Lib.alloc_old _ _ _ (by simp)]
  exact heap_alloc_last w _
theorem below_setRow {B g : Nat} {a w : World} (h : Below B a w) (hB : B ≤ g) (c : Array Value) : Below B a (w.setRow g c) :=
  ⟨h.os, h.tape, h.output, by have := h.size; simpa [World.setRow] using this, fun k hk => by rw [heap_setRow_ne (by omega)]; exact h.block k hk⟩
theorem setup_below (w : World) : Below w.heap.size w ((((w.alloc (.cells nines0 54)).alloc (.cells rowsC 63)).alloc (.cells zeros 63)).setRow (w.heap.size + 1 + 1) rowsC) :=
  below_setRow ((((Below.refl _ w).alloc (Nat.le_refl _) _).alloc (by simp) _).alloc (by simp; omega) _) (by omega) _

noncomputable abbrev rowA (k : Nat) : Array Value := #[.string (nm k), .int .i64 (iv k 1), .int .i64 (iv k 2), .bool (bv k 3), .bool (bv k 4), .int .i64 (iv k 5), .int .i64 (iv k 6), .bool (bv k 7), .int .i64 (iv k 8)]
theorem row_one (k : Nat) : (rowA k).all (·.oneCell') = true := by simp [Value.oneCell']
theorem spec_info : (Tryd.prog.info? 54).map (·.size) = some 9 := by kernel_rfl
theorem results_cell_row2 {P : Program} {fn : Func} {p u : Tmp} {ty : TypeId} (h : fn.results = #[.cell p ty, .tmp u]) (tmps : Array Value) (w : World) (g : Nat) (t : TypeId) (cs : Array Value) (fr : Nat × Nat) (d : TypeDesc)
    (hp : tmps.getD p undef = .pointer (some ⟨g, 0, none⟩)) (hg : w.heap[g]? = some (.cells cs t fr))
    (hu : P.underlying ty = some d) (hd : (match d with | .struct _ | .array _ _ => true | _ => false) = true) (hi : (P.info? ty).map (·.size) = some cs.size) :
    (results fn tmps).run P w = .ok (.tuple #[.agg cs, tmps.getD u undef]) w := by
  have hp' : tmps[p]?.getD undef = .pointer (some ⟨g, 0, none⟩) := by simpa using hp
  rw [results_cell_tmp h]
  simp [hp', asAddr, run_loadVar_row w g t ty cs fr d hg hu hd hi, Result.andThen]

set_option maxHeartbeats 2000000 in
set_option maxRecDepth 100000 in
theorem find_any (s : ByteArray) (w : World) (hs : s.size ≤ 35184372088832) (k : Nat) (hk : place ⟨(lowT s).toArray⟩ = k) (hk1 : k < 72) (hk2 : nm k = ⟨(lowT s).toArray⟩) :
    Calls Tryd.prog 20 #[.string s] w fun e w' => e = .returned (.tuple #[specV k, .bool true]) ∧ Below w.heap.size w w' := by
  obtain ⟨n, hn⟩ : ∃ n : ByteArray, n = ⟨(lowT s).toArray⟩ := ⟨_, rfl⟩
  have HL := Lib.hid (fun w => lower_any s w hs)
  rw [← hn] at hk hk2 HL
  have HK := Lib.hid hk
  clear hn hk
  go_enter Tryd.func20, Tryd.ntmps20
  go_wp2_with fail
  refine (rows_any _).mono ?_
  rintro e w1 ⟨rfl, rfl⟩
  go_wp2_with (refine wpList_store_row rfl 63 (.tmp 4) (.tmp 7) rfl (((w.alloc (.cells #[.string ⟨#[]⟩, .int .i64 0, .int .i64 0, .bool false, .bool false, .int .i64 0, .int .i64 0, .bool false, .int .i64 0] 54)).alloc (.cells rowsC 63)).heap.size) rowsC (by simp [Act.eval]) rfl 63 zeros (heap_alloc_new _ _) rows_size zeros_rows rows_one ?_)
  obtain ⟨W, hW⟩ : ∃ W, W = ((((w.alloc (.cells #[.string ⟨#[]⟩, .int .i64 0, .int .i64 0, .bool false, .bool false, .int .i64 0, .int .i64 0, .bool false, .int .i64 0] 54)).alloc (.cells rowsC 63)).alloc (.cells zeros 63)).setRow (w.heap.size + 1 + 1) rowsC) := ⟨_, rfl⟩
  have hT : W.heap[w.heap.size + 1 + 1]? = some (.cells rowsC 63 (0, 0)) := by rw [hW]; exact setup_tab w
  have hR : W.heap[w.heap.size]? = some (.cells #[.string ⟨#[]⟩, .int .i64 0, .int .i64 0, .bool false, .bool false, .int .i64 0, .int .i64 0, .bool false, .int .i64 0] 54 (0, 0)) := by rw [hW]; exact setup_res w
  have hB := Lib.hid (show Below w.heap.size w W by rw [hW]; exact setup_below w)
  first | rw [← hW] | (rw [show Tryd.zeroCells63 = zeros from by kernel_rfl]; rw [← hW])
  clear hW
  refine (HL.out W).mono ?_
  rintro e w3 ⟨rfl, b3⟩
  rw [← b3.block _ (Array.getElem?_eq_some_iff.1 hT).1] at hT
  rw [← b3.block _ (Array.getElem?_eq_some_iff.1 hR).1] at hR
  have hB3 := Lib.hid (hB.out.trans (b3.mono hB.out.size))
  clear hB b3
  go_wp2_with fail
  obtain ⟨w4, hw4⟩ : ∃ w4, w4 = w3.alloc (.cells #[.string n] 9) := ⟨_, rfl⟩
  have hlt := (Array.getElem?_eq_some_iff.1 hT).1
  have hlt2 := (Array.getElem?_eq_some_iff.1 hR).1
  have hN : w4.cell? ⟨w3.heap.size, 0, none⟩ = some (.string n) := by rw [hw4]; go_simp
  have hT4 : TabAt w4 (w.heap.size + 1 + 1) := ⟨_, by rw [hw4, Lib.alloc_old w3 _ _ hlt]; exact hT⟩
  have hR4 : w4.heap[w.heap.size]? = some (.cells #[.string ⟨#[]⟩, .int .i64 0, .int .i64 0, .bool false, .bool false, .int .i64 0, .int .i64 0, .bool false, .int .i64 0] 54 (0, 0)) := by rw [hw4, Lib.alloc_old w3 _ _ hlt2]; exact hR
  have hB4 := Lib.hid (show Below w.heap.size w w4 by rw [hw4]; exact hB3.out.alloc hB3.out.size _)
  rw [← hw4]
  clear hT hR hB3 hw4 hlt hlt2
  refine (search (w.heap.size + 1 + 1) w3.heap.size n w4 hT4 hN).mono ?_
  rintro e w5 ⟨rfl, q, os, rfl⟩
  rw [HK.out]
  obtain ⟨w5, hw5⟩ : ∃ w5, w5 = grow (w4.drewN q) os := ⟨_, rfl⟩
  have hT5 := tab_grow hT4 q os
  have hN5 := cell_grown (Lib.lt_of_cell hN) hN q os
  have hR5 : (grow (w4.drewN q) os).heap[w.heap.size]? = _ := (heap_grow_old (w4.drewN q) os (by exact (Array.getElem?_eq_some_iff.1 hR4).1)).trans hR4
  have hB5 := Lib.hid (below_grow (below_drewN hB4.out q) (by exact hB4.out.size) os)
  rw [← hw5] at hT5 hN5 hR5 hB5 ⊢
  clear hw5 hT4 hN hR4 hB4 HL
  have hk72 : (k : Int) < 72 := by omega
  have hne : ¬ (k : Int) = 72 := by omega
  have c0 := (hT5.cell (k * 9)).trans (nm_cell k hk1)
  have c1 := (hT5.cell (k * 9 + 1)).trans (iv_cell k 1 hk1 (by decide))
  have c2 := (hT5.cell (k * 9 + 2)).trans (iv_cell k 2 hk1 (by decide))
  have c3 := (hT5.cell (k * 9 + 3)).trans (bv_cell k 3 hk1 (by decide))
  have c4 := (hT5.cell (k * 9 + 4)).trans (bv_cell k 4 hk1 (by decide))
  have c5 := (hT5.cell (k * 9 + 5)).trans (iv_cell k 5 hk1 (by decide))
  have c6 := (hT5.cell (k * 9 + 6)).trans (iv_cell k 6 hk1 (by decide))
  have c7 := (hT5.cell (k * 9 + 7)).trans (bv_cell k 7 hk1 (by decide))
  have c8 := (hT5.cell (k * 9 + 8)).trans (iv_cell k 8 hk1 (by decide))
  clear hT5
  subst hk2
  go_wp2_with fail
  refine wp_region_pin [0,0,0,0,0,0,1,1,0,0] (by kernel_rfl) (by kernel_rfl) ?_
  (refine pin_pure (fun K hK => ?_); go_simp; refine hK _ _ ?_; clear hK K)
  (refine pin_pure (fun K hK => ?_); go_simp; refine hK _ _ ?_; clear hK K)
  (refine pin_pure (fun K hK => ?_); go_simp; refine hK _ _ ?_; clear hK K)
  (refine pin_pure (fun K hK => ?_); go_simp; refine hK _ _ ?_; clear hK K)
  (refine pin_pure (fun K hK => ?_); go_simp; refine hK _ _ ?_; clear hK K)
  (refine pin_pure (fun K hK => ?_); go_simp; refine hK _ _ ?_; clear hK K)
  (refine pin_read (fun K hK => ?_); go_simp; refine hK _ _ ?_; clear hK K)
  (refine pin_read (fun K hK => ?_); go_simp; refine hK _ _ ?_; clear hK K)
  (refine pin_pure (fun K hK => ?_); go_simp; refine hK _ _ ?_; clear hK K)
  (refine pin_pure (fun K hK => ?_); go_simp; refine hK _ _ ?_; clear hK K)
  refine pin_nil ?_
  intro nq
  have hR6 : (w5.drewN nq).heap[w.heap.size]? = some (.cells nines0 54 (0, 0)) := hR5
  go_wp2_with (refine wpList_store_row rfl 54 (.tmp 2) (.tmp 25) rfl w.heap.size #[.string (nm k), .int .i64 (iv k 1), .int .i64 (iv k 2), .bool (bv k 3), .bool (bv k 4), .int .i64 (iv k 5), .int .i64 (iv k 6), .bool (bv k 7), .int .i64 (iv k 8)] rfl rfl 54 nines0 hR6 spec_info rfl (row_one k) ?_)
  have hf := heap_setRow_same (c' := rowA k) hR6
  refine bodyPost_ret (v := .tuple #[specV k, .bool true]) ?_ rfl ⟨rfl, below_drewN (below_setRow hB5.out (Nat.le_refl _) _) nq⟩
  exact results_cell_row2 (fn := Tryd.f20) (p := 2) (u := 3) (ty := 54) rfl _ _ w.heap.size 54 (rowA k) (0, 0) _ rfl hf Tryd.underlying54 rfl spec_info
end Go.Proofs.YtpanbijlfijgfaaDoor.Fnd
