/- The walk of the document's Find; and what both Finds answer. -/
import Derived.Test.YtpanbijlfijgfaaDoorFindN18
import Derived.Test.YtpanbijlfijgfaaDoorRefLow18
import Derived.Test.YtpanbijlfijgfaaDoorRef18
namespace Go.Proofs.YtpanbijlfijgfaaDoor.Fnd
open Go.RowKit Go.Sort Go.Proofs.YtpanbijlfijgfaaDoor.Shf Go.Proofs.YtpanbijlfijgfaaDoor.Rws Go.Proofs.YtpanbijlfijgfaaDoor.Low18 Go.Proofs.YtpanbijlfijgfaaDoor.Pin

/-- which row has the name -/
def Hit (n : ByteArray) : Option Nat → Prop
  | some k => k < 72 ∧ nm k = n
  | none => ∀ j, j < 72 → ¬ nm j = n
noncomputable def specO : Option Nat → Value
  | some k => specV k
  | none => specN
theorem hit_one {n : ByteArray} : ∀ {o p : Option Nat}, Hit n o → Hit n p → o = p
  | some k, some j, h1, h2 => by
    have e1 := place_nm k h1.1
    have e2 := place_nm j h2.1
    rw [h1.2] at e1
    rw [h2.2, e1] at e2
    rw [e2]
  | some k, none, h1, h2 => absurd h1.2 (h2 k h1.1)
  | none, some k, h1, h2 => absurd h2.2 (h1 k h2.1)
  | none, none, _, _ => rfl
theorem names_low : (List.range 72).all (fun k => (nm k).data.toList.all fun c => decide (c.toNat < 128)) = true := by kernel_rfl
theorem hit_high {l : List UInt8} (h : High l) : Hit ⟨l.toArray⟩ none := by
  intro j hj e
  obtain ⟨c, hc, hh⟩ := h
  have h1 := List.all_eq_true.1 names_low j (List.mem_range.2 hj)
  rw [e] at h1
  have h2 := List.all_eq_true.1 h1 c (by simpa using hc)
  simp at h2
  omega
theorem hit_both {s : ByteArray} {o p : Option Nat} (h1 : Hit ⟨(lowT s).toArray⟩ o) (h2 : Hit ⟨(lowL s.data.toList).toArray⟩ p) : o = p := by
  rcases low_text s with ⟨h3, h4⟩ | h3
  · rw [hit_one h1 (hit_high h3), hit_one h2 (hit_high h4)]
  · rw [h3] at h1
    exact hit_one h1 h2
/-- the answer of table.Find -/
theorem find_all (s : ByteArray) (w : World) (hs : s.size ≤ 35184372088832) :
    Calls Tryd.prog 20 #[.string s] w fun e w' => ∃ o, Hit ⟨(lowT s).toArray⟩ o ∧ e = .returned (.tuple #[specO o, .bool o.isSome]) ∧ Below w.heap.size w w' := by
  have hle := place_le ⟨(lowT s).toArray⟩
  have hno : ¬ nm (place ⟨(lowT s).toArray⟩) = ⟨(lowT s).toArray⟩ ∨ place ⟨(lowT s).toArray⟩ = 72 → Hit ⟨(lowT s).toArray⟩ none := by
    intro h j hj e
    have e1 := place_nm j hj
    rw [e] at e1
    rcases h with h | h
    · exact h (by rw [e1]; exact e)
    · omega
  by_cases h72 : place ⟨(lowT s).toArray⟩ = 72
  · exact (find_end s w hs h72).mono fun e w' ⟨he, hb⟩ => ⟨none, hno (.inr h72), he, hb⟩
  · by_cases hn : nm (place ⟨(lowT s).toArray⟩) = ⟨(lowT s).toArray⟩
    · exact (find_any s w hs _ rfl (by omega) hn).mono fun e w' ⟨he, hb⟩ => ⟨some _, ⟨by omega, hn⟩, he, hb⟩
    · refine (find_off s w hs _ rfl (by omega) ?_).mono fun e w' ⟨he, hb⟩ => ⟨none, hno (.inl hn), he, hb⟩
      rw [beq_eq_false_iff_ne, ByteArray.toList_eq, ByteArray.toList_eq]
      intro e
      exact hn (WideShapes.bytes_inj e)

theorem ref_info : (Tryd.prog.info? 58).map (·.size) = some 9 := by kernel_rfl
/-- the block of the result -/
def ResAt (w : World) (g : Nat) : Prop := w.heap[g]? = some (.cells nines0 58 (0, 0))

set_option maxHeartbeats 4000000 in
set_option maxRecDepth 100000 in
theorem ref_find (s : ByteArray) (w : World) (hs : s.size ≤ 140737488351232) :
    Calls Tryd.prog 22 #[.string s] w fun e w' => ∃ o, Hit ⟨(lowL s.data.toList).toArray⟩ o ∧ e = .returned (.tuple #[specO o, .bool o.isSome]) ∧ Below w.heap.size w w' := by
  obtain ⟨n, hn⟩ : ∃ n : ByteArray, n = ⟨(lowL s.data.toList).toArray⟩ := ⟨_, rfl⟩
  have HL := Lib.hid (fun w => ref_lower s w hs)
  rw [← hn] at HL ⊢
  clear hn
  go_enter Tryd.func22, Tryd.ntmps22
  go_wp2_with fail
  refine (ref_any _).mono ?_
  rintro e w1 ⟨rfl, rfl⟩
  go_wp2_with fail
  obtain ⟨W, hW⟩ : ∃ W, W = (w.alloc (.cells nines0 58)).alloc (.cells rowsC 58) := ⟨_, rfl⟩
  have hT : TabAt W (w.heap.size + 1) := ⟨58, by rw [hW]; have := heap_alloc_last (w.alloc (.cells nines0 58)) (.cells rowsC 58); simpa using this⟩
  have hR : ResAt W w.heap.size := by rw [hW]; unfold ResAt; rw [Lib.alloc_old _ _ _ (by simp)]; exact heap_alloc_last w _
  have hB : Below w.heap.size w W := by rw [hW]; exact ((Below.refl _ w).alloc (Nat.le_refl _) _).alloc (by simp) _
  rw [← hW]
  have hI := Lib.hid (show TabAt W (w.heap.size + 1) ∧ ResAt W w.heap.size ∧ Below w.heap.size w W from ⟨hT, hR, hB⟩)
  clear hW hT hR hB
  go_loopw [5] (fun i wr => ∃ (k : Nat), k ≤ 72 ∧ i = .int .i64 k ∧ Hid (TabAt wr (w.heap.size + 1) ∧ ResAt wr w.heap.size ∧ Below w.heap.size w wr) ∧ Hid (∀ j, j < k → ¬ nm j = n)) (fun i _ => 72 - (intOf i).toNat)
  case atStart => exact ⟨0, by omega, rfl, hI, Lib.hid (fun j h => absurd h (by omega))⟩
  case round =>
    obtain ⟨k, hk, rfl, HI, HN⟩ := hrel
    clear hI
    by_cases hlt : k < 72
    · have hk72 : (k : Int) < 72 := by omega
      have hc0 := (HI.out.1.cell (k * 9)).trans (nm_cell k hlt)
      have HC := Lib.hid hc0
      by_cases heq : nm k = n
      · have hbq : ((nm k).toList == n.toList) = true := by rw [heq]; exact beq_self_eq_true _
        have HQ := Lib.hid heq
        clear heq
        go_wp2_with fail
        refine wp_region_pinS (fun w' => w'.cell? ⟨w.heap.size + 1, k * 9, none⟩ = some (.string (nm k))) [0,0,0,0,0,0,2,0] (by kernel_rfl) (by kernel_rfl) (fun _ _ h => h) (HC.out) ?_
        (refine pin_pure (fun K hK => ?_); go_simp; refine hK _ _ ?_; clear hK K)
        (refine pin_pure (fun K hK => ?_); go_simp; refine hK _ _ ?_; clear hK K)
        (refine pin_pure (fun K hK => ?_); go_simp; refine hK _ _ ?_; clear hK K)
        (refine pin_pure (fun K hK => ?_); go_simp; refine hK _ _ ?_; clear hK K)
        (refine pin_fixed (fun K hK => ?_); go_simp; refine ⟨.string (nm k), fun w => ?_, hK _ _ ?_⟩; (intros; go_simp); clear hK K)
        (refine pin_pure (fun K hK => ?_); go_simp; refine hK _ _ ?_; clear hK K)
        (refine pin_writeS (fun K hK => ?_); go_simp; intro nw; refine (HL.out _).mono ?_; rintro e w3 ⟨rfl, b3⟩; obtain ⟨w3, rfl⟩ : ∃ u, w3 = u.drewN 0 := ⟨w3, rfl⟩; have b4 : Hid (Below wr.heap.size wr w3) := Lib.hid ⟨b3.os, b3.tape, b3.output, b3.size, b3.block⟩; clear b3; refine ⟨_, rfl, _, ⟨_, rfl⟩, hK _ _ ?_ ?_⟩; (exact (b4.out.cell (p := ⟨w.heap.size + 1, k * 9, none⟩) (Lib.lt_of_cell HC.out)).trans HC.out); clear hK K)
        (refine pin_pure (fun K hK => ?_); go_simp; refine hK _ _ ?_; clear hK K)
        refine pin_nil ?_
        intro nq
        have hT3 : TabAt w3 (w.heap.size + 1) := by
          obtain ⟨t, ht⟩ := HI.out.1
          exact ⟨t, by rw [b4.out.block _ (Array.getElem?_eq_some_iff.1 ht).1]; exact ht⟩
        have hR3 : ResAt w3 w.heap.size := by
          have hr := HI.out.2.1
          unfold ResAt at hr ⊢
          rw [b4.out.block _ (Array.getElem?_eq_some_iff.1 hr).1]; exact hr
        have hB3 : Hid (Below w.heap.size w w3) := Lib.hid (HI.out.2.2.trans (b4.out.mono HI.out.2.2.size))
        have c0 := (hT3.cell (k * 9)).trans (nm_cell k hlt)
        have c1 := (hT3.cell (k * 9 + 1)).trans (iv_cell k 1 hlt (by decide))
        have c2 := (hT3.cell (k * 9 + 2)).trans (iv_cell k 2 hlt (by decide))
        have c3 := (hT3.cell (k * 9 + 3)).trans (bv_cell k 3 hlt (by decide))
        have c4 := (hT3.cell (k * 9 + 4)).trans (bv_cell k 4 hlt (by decide))
        have c5 := (hT3.cell (k * 9 + 5)).trans (iv_cell k 5 hlt (by decide))
        have c6 := (hT3.cell (k * 9 + 6)).trans (iv_cell k 6 hlt (by decide))
        have c7 := (hT3.cell (k * 9 + 7)).trans (bv_cell k 7 hlt (by decide))
        have c8 := (hT3.cell (k * 9 + 8)).trans (iv_cell k 8 hlt (by decide))
        clear hT3
        have hR6 : (w3.drewN nq).heap[w.heap.size]? = some (.cells nines0 58 (0, 0)) := hR3
        clear hR3
        go_wp2_with (refine wpList_store_row rfl 58 (.tmp 2) (.tmp 24) rfl w.heap.size (rowA k) rfl rfl 58 nines0 hR6 ref_info rfl (row_one k) ?_)
        have hf := heap_setRow_same (c' := rowA k) hR6
        refine bodyPost_ret (v := .tuple #[specV k, .bool true]) ?_ rfl ⟨some k, ⟨hlt, HQ.out⟩, rfl, below_drewN (below_setRow hB3.out (Nat.le_refl _) _) nq⟩
        exact results_cell_row2 (fn := Tryd.f22) (p := 2) (u := 3) (ty := 58) rfl _ _ w.heap.size 58 (rowA k) (0, 0) _ rfl hf Tryd.underlying58 rfl ref_info
      · have hbq : ((nm k).toList == n.toList) = false := by
          rw [beq_eq_false_iff_ne, ByteArray.toList_eq, ByteArray.toList_eq]
          intro e
          exact heq (WideShapes.bytes_inj e)
        have HQ := Lib.hid heq
        clear heq
        go_wp2_with fail
        refine wp_region_pinS (fun w' => w'.cell? ⟨w.heap.size + 1, k * 9, none⟩ = some (.string (nm k))) [0,0,0,0,0,0,2,0] (by kernel_rfl) (by kernel_rfl) (fun _ _ h => h) (HC.out) ?_
        (refine pin_pure (fun K hK => ?_); go_simp; refine hK _ _ ?_; clear hK K)
        (refine pin_pure (fun K hK => ?_); go_simp; refine hK _ _ ?_; clear hK K)
        (refine pin_pure (fun K hK => ?_); go_simp; refine hK _ _ ?_; clear hK K)
        (refine pin_pure (fun K hK => ?_); go_simp; refine hK _ _ ?_; clear hK K)
        (refine pin_fixed (fun K hK => ?_); go_simp; refine ⟨.string (nm k), fun w => ?_, hK _ _ ?_⟩; (intros; go_simp); clear hK K)
        (refine pin_pure (fun K hK => ?_); go_simp; refine hK _ _ ?_; clear hK K)
        (refine pin_writeS (fun K hK => ?_); go_simp; intro nw; refine (HL.out _).mono ?_; rintro e w3 ⟨rfl, b3⟩; obtain ⟨w3, rfl⟩ : ∃ u, w3 = u.drewN 0 := ⟨w3, rfl⟩; have b4 : Hid (Below wr.heap.size wr w3) := Lib.hid ⟨b3.os, b3.tape, b3.output, b3.size, b3.block⟩; clear b3; refine ⟨_, rfl, _, ⟨_, rfl⟩, hK _ _ ?_ ?_⟩; (exact (b4.out.cell (p := ⟨w.heap.size + 1, k * 9, none⟩) (Lib.lt_of_cell HC.out)).trans HC.out); clear hK K)
        (refine pin_pure (fun K hK => ?_); go_simp; refine hK _ _ ?_; clear hK K)
        refine pin_nil ?_
        intro nq
        have hT3 : TabAt w3 (w.heap.size + 1) := by
          obtain ⟨t, ht⟩ := HI.out.1
          exact ⟨t, by rw [b4.out.block _ (Array.getElem?_eq_some_iff.1 ht).1]; exact ht⟩
        have hR3 : ResAt w3 w.heap.size := by
          have hr := HI.out.2.1
          unfold ResAt at hr ⊢
          rw [b4.out.block _ (Array.getElem?_eq_some_iff.1 hr).1]; exact hr
        have hB3 : Hid (Below w.heap.size w w3) := Lib.hid (HI.out.2.2.trans (b4.out.mono HI.out.2.2.size))
        have hF := Lib.hid (And.intro hT3 (And.intro hR3 hB3.out))
        clear hT3 hR3 hB3
        go_wp2_with fail
        go_roundw
        case measure => simp [intOf]; omega
        case rel =>
          refine ⟨k + 1, by omega, by go_num, Lib.hid ⟨hF.out.1, hF.out.2.1, below_drewN hF.out.2.2 _⟩, Lib.hid fun j hj => ?_⟩
          rcases Nat.lt_or_ge j k with h | h
          · exact HN.out j h
          · obtain rfl : j = k := by omega
            exact HQ.out
    · have e : k = 72 := by omega
      subst e
      have hR6 := HI.out.2.1
      unfold ResAt at hR6
      go_wp2_with (refine wpList_store_row rfl 58 (.tmp 2) (.tmp 25) rfl w.heap.size nines0 rfl rfl 58 nines0 hR6 ref_info rfl nines_one ?_)
      have hf := heap_setRow_same (c' := nines0) hR6
      refine bodyPost_ret (v := .tuple #[specN, .bool false]) ?_ rfl ⟨none, fun j hj => HN.out j hj, rfl, below_setRow HI.out.2.2 (Nat.le_refl _) _⟩
      exact results_cell_row2 (fn := Tryd.f22) (p := 2) (u := 3) (ty := 58) rfl _ _ w.heap.size 58 nines0 (0, 0) _ rfl hf Tryd.underlying58 rfl ref_info
end Go.Proofs.YtpanbijlfijgfaaDoor.Fnd
