/- The walk of the document's Check. -/
import Derived.Test.YtpanbijlfijgfaaDoorLf18
namespace Go.Proofs.YtpanbijlfijgfaaDoor.Fnd
open Go.RowKit Go.Proofs.YtpanbijlfijgfaaDoor.Rws Go.Proofs.YtpanbijlfijgfaaDoor.Low18

set_option maxHeartbeats 400000 in
theorem rcheck_empty (p : Option Addr) (cap : Nat) (w : World) :
    Calls Tryd.prog 6 #[.slice p 0 cap] w fun r w' => r = .returned (.tuple #[repV 2 sUnk, .bool true]) ∧ Below w.heap.size w w' := by
  go_enter Tryd.func6, Tryd.ntmps6
  go_wp2_with fail
  refine (Bok.ref_fault _ _).mono ?_
  rintro e w1 ⟨rfl, b1⟩
  have b2 := Lib.hid (((Below.refl _ w).alloc (Nat.le_refl _) _).trans (b1.mono (by simp)))
  have hR : w1.heap[w.heap.size]? = some (.cells rep0 28 (0, 0)) := by rw [b1.block _ (by simp)]; exact heap_alloc_last w _
  clear b1
  unfold repV
  go_wp2_with (refine wpList_store_row rfl 28 (.tmp 2) (.tmp 11) rfl w.heap.size #[.int .u8 2, .string sUnk, .int .i64 0, .slice none 0 0] rfl rfl 28 rep0 hR rep_info rfl (by simp [Value.oneCell']) ?_)
  have hf := heap_setRow_same (c' := #[.int .u8 2, .string sUnk, .int .i64 0, .slice none 0 0]) hR
  refine bodyPost_ret (v := .tuple #[repV 2 sUnk, .bool true]) ?_ rfl ⟨rfl, below_setRow b2.out (Nat.le_refl _) _⟩
  exact results_cell_row2 (fn := Tryd.f6) (p := 2) (u := 3) (ty := 28) rfl _ _ w.heap.size 28 _ (0, 0) _ rfl hf Tryd.underlying28 rfl rep_info

set_option maxHeartbeats 2000000 in
set_option maxRecDepth 100000 in
theorem rcheck_any (p : Option Addr) (ss : List ByteArray) (cap : Nat) (w : World) (hne : 0 < ss.length) (hl : ss.length ≤ 9223372036854775807) (hs0 : ss[0].size ≤ 140737488351232) (hb : ∀ s ∈ ss, s.size ≤ 140737488351232) (hS : Strs w p ss) :
    Calls Tryd.prog 6 #[.slice p ss.length cap] w fun r w' => ∃ o, Hit ⟨(lowL ss[0].data.toList).toArray⟩ o ∧ r = .returned (.tuple #[chkV (chk o ss), .bool (chk o ss).isSome]) ∧ Below w.heap.size w w' := by
  have HS := Lib.hid hS
  obtain ⟨g, o, rfl, hg, hc⟩ := hS 0 hne
  obtain ⟨s0, h0⟩ : ∃ s, s = ss[0] := ⟨_, rfl⟩
  rw [← h0, Nat.add_zero] at hc
  rw [← h0] at hs0 ⊢
  have HF := Lib.hid (fun w => ref_find s0 w hs0)
  have HBs := Lib.hid hb
  clear hS hb h0
  obtain ⟨L, hL⟩ : ∃ L, L = ss.length := ⟨_, rfl⟩
  rw [← hL] at hne hl ⊢
  have HL := Lib.hid hL
  clear hL
  have hn0 : ¬ (L : Int) = 0 := by omega
  have hpos : (0 : Int) < (L : Int) := by omega
  go_enter Tryd.func6, Tryd.ntmps6
  go_wp2_with fail
  refine (HF.out _).mono ?_
  rintro e w1 ⟨oo, hh, rfl, b1⟩
  have HH := Lib.hid hh
  have b2 := Lib.hid (((Below.refl _ w).alloc (Nat.le_refl _) (.cells rep0 28)).trans (b1.mono (by simp)))
  have hR : w1.heap[w.heap.size]? = some (.cells rep0 28 (0, 0)) := by rw [b1.block _ (by simp)]; exact heap_alloc_last w _
  clear b1 hh
  cases oo with
  | none =>
    unfold specO specN
    go_wp2_with fail
    refine (Bok.ref_fault _ _).mono ?_
    rintro e w2 ⟨rfl, b3⟩
    have b4 := Lib.hid ((b2.out.alloc b2.out.size (.cells nines0 58)).trans (b3.mono (by have := b2.out.size; simp; omega)))
    have hR2 : w2.heap[w.heap.size]? = some (.cells rep0 28 (0, 0)) := by
      have hlt := (Array.getElem?_eq_some_iff.1 hR).1
      rw [b3.block _ (by simp; omega), Lib.alloc_old _ _ _ hlt]; exact hR
    clear b3 hR
    unfold repV
    go_wp2_with (refine wpList_store_row rfl 28 (.tmp 2) (.tmp 21) rfl w.heap.size #[.int .u8 2, .string sUnk, .int .i64 0, .slice none 0 0] rfl rfl 28 rep0 hR2 rep_info rfl (by simp [Value.oneCell']) ?_)
    have hf := heap_setRow_same (c' := #[.int .u8 2, .string sUnk, .int .i64 0, .slice none 0 0]) hR2
    refine bodyPost_ret (v := .tuple #[repV 2 sUnk, .bool true]) ?_ rfl ⟨none, HH.out, rfl, below_setRow b4.out (Nat.le_refl _) _⟩
    exact results_cell_row2 (fn := Tryd.f6) (p := 2) (u := 3) (ty := 28) rfl _ _ w.heap.size 28 _ (0, 0) _ rfl hf Tryd.underlying28 rfl rep_info
  | some k =>
    unfold specO specV
    have hcb : chk (some k) ss = if badL k L = true then some sWrong else if ss.any (fun s => decide (65536 < s.size)) = true then some sSize else none := by rw [HL.out]; rfl
    have HCB := Lib.hid hcb
    clear hcb
    have hlt := (Array.getElem?_eq_some_iff.1 hR).1
    cases hbd : badL k L with
    | true =>
      have HBD := Lib.hid hbd
      have h12 : (L : Int) < iv k 1 ∨ (¬ (L : Int) < iv k 1 ∧ iv k 2 < (L : Int)) ∨ (¬ (L : Int) < iv k 1 ∧ ¬ iv k 2 < (L : Int)) := by omega
      have hpar : (((L : Int) % 2 == 1) = true ∧ (L : Int) % 2 = 1) ∨ (((L : Int) % 2 == 1) = false ∧ (L : Int) % 2 = 0) := by
        rcases Int.emod_two_eq (L : Int) with h | h
        · exact .inr ⟨by rw [h]; rfl, h⟩
        · exact .inl ⟨by rw [h]; rfl, h⟩
      rcases hpar with ⟨hp, hp2⟩ | ⟨hp, hp2⟩ <;> rcases cls (nm k).toList with ⟨c1, c2, c3⟩ | ⟨c1, c2, c3⟩ | ⟨c1, c2, c3⟩ | ⟨c1, c2, c3⟩ <;> rcases h12 with h1 | ⟨h1, h2⟩ | ⟨h1, h2⟩
      all_goals first
        | (exfalso; simp [badL, toL, sHset, sZadd, sXadd, c1, c2, c3, h1, h2, hp2] at hbd; done)
        | (clear hbd hp2
           go_wp2_with fail
           refine (Bok.ref_fault _ _).mono ?_
           rintro e w2 ⟨rfl, b3⟩
           have b4 := Lib.hid ((b2.out.alloc b2.out.size (.cells (rowA k) 58)).trans (b3.mono (by have := b2.out.size; simp; omega)))
           have hR2 : w2.heap[w.heap.size]? = some (.cells rep0 28 (0, 0)) := by
             rw [b3.block _ (by simp; omega), Lib.alloc_old _ _ _ hlt]; exact hR
           clear b3 hR
           unfold repV
           go_wp2_with (refine wpList_store_row rfl 28 (.tmp 2) (.tmp 60) rfl w.heap.size #[.int .u8 2, .string sWrong, .int .i64 0, .slice none 0 0] rfl rfl 28 rep0 hR2 rep_info rfl (by simp [Value.oneCell']) ?_)
           have hf := heap_setRow_same (c' := #[.int .u8 2, .string sWrong, .int .i64 0, .slice none 0 0]) hR2
           refine bodyPost_ret (v := .tuple #[repV 2 sWrong, .bool true]) ?_ rfl ⟨some k, HH.out, by rw [HCB.out, if_pos HBD.out]; rfl, below_setRow b4.out (Nat.le_refl _) _⟩
           exact results_cell_row2 (fn := Tryd.f6) (p := 2) (u := 3) (ty := 28) rfl _ _ w.heap.size 28 _ (0, 0) _ rfl hf Tryd.underlying28 rfl rep_info)
    | false =>
      have HBD := Lib.hid hbd
      have h1 : ¬ (L : Int) < iv k 1 := fun h => by simp [badL, h] at hbd
      have h2 : ¬ iv k 2 < (L : Int) := fun h => by simp [badL, h] at hbd
      have hpar : (((L : Int) % 2 == 1) = true ∧ (L : Int) % 2 = 1) ∨ (((L : Int) % 2 == 1) = false ∧ (L : Int) % 2 = 0) := by
        rcases Int.emod_two_eq (L : Int) with h | h
        · exact .inr ⟨by rw [h]; rfl, h⟩
        · exact .inl ⟨by rw [h]; rfl, h⟩
      have hW := Lib.hid (b2.out.alloc b2.out.size (.cells (rowA k) 58))
      have hRW : (w1.alloc (.cells (rowA k) 58)).heap[w.heap.size]? = some (.cells rep0 28 (0, 0)) := by rw [Lib.alloc_old _ _ _ hlt]; exact hR
      have HRW := Lib.hid hRW
      clear hRW hR b2
      rcases hpar with ⟨hp, hp2⟩ | ⟨hp, hp2⟩ <;> rcases cls (nm k).toList with ⟨c1, c2, c3⟩ | ⟨c1, c2, c3⟩ | ⟨c1, c2, c3⟩ | ⟨c1, c2, c3⟩
      all_goals first
        | (exfalso; simp [badL, toL, sHset, sZadd, sXadd, c1, c2, c3, h1, h2, hp2] at hbd; done)
        | skip
      all_goals
        clear hbd hp2
        go_wp2_with fail
        generalize hWd : w1.alloc (.cells (rowA k) 58) = W at hW HRW ⊢
        clear hWd
        go_loopw [7] (fun i wr => ∃ (j : Nat), j ≤ L ∧ i = .int .i64 j ∧ wr = W ∧ Hid (∀ q (h : q < ss.length), q < j → ss[q].size ≤ 65536)) (fun i _ => L - (intOf i).toNat)
        case atStart => exact ⟨0, by omega, rfl, rfl, Lib.hid (fun q h hq => absurd hq (by omega))⟩
        case round =>
          obtain ⟨j, hj, rfl, rfl, HZ⟩ := hrel
          by_cases hlt2 : j < L
          · have hjs : j < ss.length := by rw [← HL.out]; exact hlt2
            obtain ⟨g', o', he, hg', hcj⟩ := HS.out j hjs
            injection he with he
            injection he with he1 he2
            subst he1 he2
            rw [← hW.out.cell (p := ⟨g, o + j, none⟩) hg] at hcj
            obtain ⟨x, hx⟩ : ∃ x, x = ss[j] := ⟨_, rfl⟩
            rw [← hx] at hcj
            have HX := Lib.hid hx
            clear hx
            by_cases hz : 65536 < x.size
            · have hz' : (65536 : Int) < (x.size : Int) := by omega
              go_wp2_with fail
              refine (Bok.ref_fault _ _).mono ?_
              rintro e w2 ⟨rfl, b3⟩
              have b4 := Lib.hid (hW.out.trans (b3.mono hW.out.size))
              have hR2 : w2.heap[w.heap.size]? = some (.cells rep0 28 (0, 0)) := by
                rw [b3.block _ (Array.getElem?_eq_some_iff.1 HRW.out).1]; exact HRW.out
              clear b3
              unfold repV
              go_wp2_with (refine wpList_store_row rfl 28 (.tmp 2) (.tmp 73) rfl w.heap.size #[.int .u8 2, .string sSize, .int .i64 0, .slice none 0 0] rfl rfl 28 rep0 hR2 rep_info rfl (by simp [Value.oneCell']) ?_)
              have hf := heap_setRow_same (c' := #[.int .u8 2, .string sSize, .int .i64 0, .slice none 0 0]) hR2
              have hany : ss.any (fun s => decide (65536 < s.size)) = true := List.any_eq_true.2 ⟨x, by rw [HX.out]; exact List.getElem_mem hjs, by simpa using hz⟩
              refine bodyPost_ret (v := .tuple #[repV 2 sSize, .bool true]) ?_ rfl ⟨some k, HH.out, by rw [HCB.out, if_neg (by rw [HBD.out]; decide), if_pos hany]; rfl, below_setRow b4.out (Nat.le_refl _) _⟩
              exact results_cell_row2 (fn := Tryd.f6) (p := 2) (u := 3) (ty := 28) rfl _ _ w.heap.size 28 _ (0, 0) _ rfl hf Tryd.underlying28 rfl rep_info
            · have hz' : ¬ (65536 : Int) < (x.size : Int) := by omega
              go_wp2_with fail
              refine ⟨⟨j + 1, by omega, by go_num, by trivial, Lib.hid fun q h hq => ?_⟩, by simp [intOf]; omega⟩
              rcases Nat.lt_or_ge q j with h3 | h3
              · exact HZ.out q h h3
              · obtain rfl : q = j := by omega
                rw [← HX.out]; omega
          · have e : j = L := by omega
            subst e
            have hR2 := HRW.out
            go_wp2_with (refine wpList_store_row rfl 28 (.tmp 2) (.tmp 74) rfl w.heap.size rep0 rfl rfl 28 rep0 hR2 rep_info rfl (by simp [Value.oneCell']) ?_)
            have hf := heap_setRow_same (c' := rep0) hR2
            have hany : ss.any (fun s => decide (65536 < s.size)) = false := by
              rw [List.any_eq_false]
              intro s hs
              obtain ⟨q, hq, rfl⟩ := List.mem_iff_getElem.1 hs
              have := HZ.out q hq (by rw [HL.out]; exact hq)
              simp; omega
            refine bodyPost_ret (v := .tuple #[repV 0 ⟨#[]⟩, .bool false]) ?_ rfl ⟨some k, HH.out, by rw [HCB.out, if_neg (by rw [HBD.out]; decide), if_neg (by rw [hany]; decide)]; rfl, below_setRow hW.out (Nat.le_refl _) _⟩
            exact results_cell_row2 (fn := Tryd.f6) (p := 2) (u := 3) (ty := 28) rfl _ _ w.heap.size 28 _ (0, 0) _ rfl hf Tryd.underlying28 rfl rep_info
end Go.Proofs.YtpanbijlfijgfaaDoor.Fnd
