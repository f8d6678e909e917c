/- A book's texts are written over with marks: fillText walked. -/
import Derived.Test.YtpanbijlfijgfaaDoorWord18
namespace Go.Proofs.YtpanbijlfijgfaaDoor.Bok
open Go Go.RowKit Go.Proofs.YtpanbijlfijgfaaDoor.Pin
abbrev mkT (n : Nat) : List Value := [.string (wordT n)]
theorem row_drewN {w : World} {B n C : Nat} {T : TypeId} {v : Value} {xs : List Value} (h : w.ownsRow B T C v n xs) (k : Nat) : (w.drewN k).ownsRow B T C v n xs :=
  (Frm.of_below (own := fun _ => False) (below_drewN (Below.refl _ w) k)).row h (fun _ _ h => h)
theorem row_full {w : World} {B m : Nat} {T : TypeId} {v : Value} {xs : List Value} {u : Value} (h : w.ownsRow B T 1 v m xs) (hx : ∀ t, t < m → xs[t]? = some u) : w.ownsRow B T 1 v m (marks [u] m) := by
  have e : xs = marks [u] m := by
    refine List.ext_getElem? fun t => ?_
    by_cases ht : t < m
    · rw [hx t ht]
      have h2 := marks_get (mk := [u]) (C := 1) rfl (m := m) (t := t) (i := 0) (u := u) ht rfl
      rw [Nat.mul_one, Nat.add_zero] at h2
      exact h2.symm
    · rw [List.getElem?_eq_none (by have := h.1; omega), List.getElem?_eq_none (by rw [marks_len (C := 1) rfl]; omega)]
  rw [← e]
  exact h
set_option maxHeartbeats 4000000 in
set_option maxRecDepth 100000 in
theorem fill_text (B b q cap : Nat) (hs : List Hd) (w : World) (hc : w.cell? ⟨b, 3, none⟩ = some (.slice (some ⟨q, 0, none⟩) hs.length cap)) (hrow : RowAt w 71 q hs (fun _ => .slice none 0 0))
    (hok : ∀ h ∈ hs, ∃ xs, w.ownsRow B 9 1 h.v h.len xs) (hap : Apt hs) (hb : ¬ Own hs b) (hq : ¬ Own hs q) (hn : ∀ h ∈ hs, h.n < 100 ∧ h.len ≤ 1099511627776) (hm : hs.length ≤ 1048576) :
    Calls Tryd.prog 28 #[.pointer (some ⟨b, 0, none⟩)] w fun e w' => e = .returned (.tuple #[]) ∧ (∀ h ∈ hs, w'.ownsRow B 9 1 h.v h.len (marks (mkT h.n) h.len)) ∧ Frm (Own hs) w w' := by
  obtain ⟨N, hN⟩ : ∃ N, N = hs.length := ⟨_, rfl⟩
  have HN := Lib.hid hN
  have HM : Hid (N ≤ 1048576) := Lib.hid (by rw [hN]; exact hm)
  rw [← hN] at hc
  have HC := Lib.hid hc
  have HR := Lib.hid hrow
  have HO := Lib.hid hok
  have HA := Lib.hid hap
  have HB := Lib.hid hb
  have HQ := Lib.hid hq
  have HL := Lib.hid hn
  clear hN hm hc hrow hok hap hb hq hn
  go_enter Tryd.func28, Tryd.ntmps28
  go_wp2_with fail
  go_loopw [2] (fun i wr => ∃ k : Nat, k ≤ N ∧ i = .int .i64 (k : Int) ∧ Hid (∀ j (hj : j < hs.length), ∃ xs, wr.ownsRow B 9 1 hs[j].v hs[j].len xs ∧ (j < k → xs = marks (mkT hs[j].n) hs[j].len)) ∧ Hid (Frm (Own hs) w wr)) (fun i _ => N - (intOf i).toNat)
  case atStart => exact ⟨0, Nat.zero_le _, rfl, Lib.hid (fun j hj => by obtain ⟨xs, hx⟩ := HO.out hs[j] (List.getElem_mem hj); exact ⟨xs, hx, fun h => by omega⟩), Lib.hid (Frm.refl _)⟩
  case round =>
    obtain ⟨k, hk, rfl, HX, HF⟩ := hrel
    have hN := HM.out
    have c3 : wr.cell? ⟨b, 3, none⟩ = some (.slice (some ⟨q, 0, none⟩) N cap) := HF.out.cell HC.out HB.out
    by_cases hlt : (k : Int) < (N : Int)
    · have hkl : k < hs.length := by have := HN.out; omega
      obtain ⟨h, hh⟩ : ∃ h, h = hs[k] := ⟨_, rfl⟩
      have HH := Lib.hid hh
      have HRk := Lib.hid (HR.out.frm HF.out HQ.out)
      obtain ⟨r1, r2, r3⟩ := HRk.out.2 k hkl
      rw [← hh] at r1 r3
      obtain ⟨xs0, hx0, _⟩ := HX.out k hkl
      rw [← hh] at hx0
      have HLk := Lib.hid (HL.out h (by rw [hh]; exact List.getElem_mem hkl))
      obtain ⟨A, c, hv, hA⟩ := row_slice hx0
      have HAs := Lib.hid hA
      have HV := Lib.hid hv
      rw [hv] at r1
      have HX0 : Hid ((wr.alloc (.cells #[.slice A h.len c, (.slice none 0 0), .int .i64 (h.n : Int)] 71)).ownsRow B 9 1 (.slice A h.len c) h.len xs0) := Lib.hid (by rw [← hv]; exact hx0.alloc _)
      have r2' : wr.cell? ⟨q, k * 3 + 1, none⟩ = some (.slice none 0 0) := r2
      have HLT : Hid (∀ r, (Value.slice A h.len c).ownBlock = some r → r < wr.heap.size) := Lib.hid (fun r hr => ((hv ▸ hx0).lt r hr).2)
      clear hh hx0 hv hA r2
      go_wp2_with fail
      obtain ⟨w3, hw3⟩ : ∃ w3, w3 = wr.alloc (.cells #[.slice A h.len c, .slice none 0 0, .int .i64 (h.n : Int)] 71) := ⟨_, rfl⟩
      obtain ⟨bx, hbx⟩ : ∃ bx, bx = wr.heap.size := ⟨_, rfl⟩
      have HBX : Hid (w3.heap[bx]? = some (.cells #[.slice A h.len c, .slice none 0 0, .int .i64 (h.n : Int)] 71 (0, 0))) := Lib.hid (by rw [hw3, hbx]; exact heap_alloc_new wr _)
      have HFW : Hid (Frm (Own hs) w w3) := Lib.hid (by rw [hw3]; exact HF.out.alloc _)
      have HX3 : Hid (∀ j (hj : j < hs.length), ∃ xs, w3.ownsRow B 9 1 hs[j].v hs[j].len xs ∧ (j < k → xs = marks (mkT hs[j].n) hs[j].len)) := Lib.hid (fun j hj => by
        obtain ⟨xs, h1, h2⟩ := HX.out j hj
        rw [hw3]
        exact ⟨xs, h1.alloc _, h2⟩)
      have HLB : Hid (∀ r, (Value.slice A h.len c).ownBlock = some r → r < bx) := Lib.hid (by rw [hbx]; exact HLT.out)
      rw [← hw3] at HX0 ⊢
      rw [← hbx]
      clear hw3 hbx HX HF c3 r1 r2' r3 HRk HLT
      go_loopw [4] (fun i wq => ∃ (j : Nat) (xs : List Value), j ≤ h.len ∧ i = .int .i64 (j : Int) ∧ Hid (wq.ownsRow B 9 1 (.slice A h.len c) h.len xs) ∧ Hid (∀ t, t < j → xs[t]? = some (.string (wordT h.n))) ∧ Hid (Frm (fun r => (Value.slice A h.len c).ownBlock = some r) w3 wq)) (fun i _ => h.len - (intOf i).toNat)
      case atStart => exact ⟨0, xs0, Nat.zero_le _, rfl, HX0, Lib.hid (fun t ht => by omega), Lib.hid (Frm.refl _)⟩
      case round =>
        obtain ⟨j, xs, hj, rfl, HXs, HP, HFq⟩ := hrel
        have hbq : wr.heap[bx]? = some (.cells #[.slice A h.len c, .slice none 0 0, .int .i64 (h.n : Int)] 71 (0, 0)) := (HFq.out.block bx (Array.getElem?_eq_some_iff.1 HBX.out).1 (fun e => by have := HLB.out bx e; omega)).trans HBX.out
        have b0 : wr.cell? ⟨bx, 0, none⟩ = some (.slice A h.len c) := by rw [Lib.cell_of_heap hbq]; rfl
        have b2 : wr.cell? ⟨bx, 2, none⟩ = some (.int .i64 (h.n : Int)) := by rw [Lib.cell_of_heap hbq]; rfl
        have hlen := HLk.out.2
        by_cases hlj : (j : Int) < (h.len : Int)
        · obtain ⟨g, rfl⟩ := HAs.out (by omega)
          have hcl : wr.cell? ⟨g, j, none⟩ = xs[j]? := HXs.out.cellAt j (by omega)
          have hfz : wr.frozen? ⟨g, j, none⟩ = false := HXs.out.frozenAt j
          have hjx : j < xs.length := by have := HXs.out.1; omega
          rw [List.getElem?_eq_getElem hjx] at hcl
          have HMK := Lib.hid (fun w => mark_text h.n HLk.out.1 w)
          clear hbq
          go_wp2_with fail
          refine wp_region_q [0,1,0,0,1,1,0,2] (by kernel_rfl) (by kernel_rfl) ?_
          (refine q_pure_n rfl (fun K hK => ?_); go_simp; refine hK _ _ ?_; clear hK K)
          (refine q_read_n rfl (fun K hK => ?_); go_simp; refine hK _ _ ?_; clear hK K)
          (refine q_pure_n rfl (fun K hK => ?_); go_simp; refine hK _ _ ?_; clear hK K)
          (refine q_pure_n rfl (fun K hK => ?_); go_simp; refine hK _ _ ?_; clear hK K)
          (refine q_read_n rfl (fun K hK => ?_); go_simp; refine hK _ _ ?_; clear hK K)
          (refine q_read_n rfl (fun K hK => ?_); go_simp; apply Exists.intro; refine ⟨fun nw => ?_, hK _ _ ?_⟩; (exact read_same (HMK.out _)); clear hK K)
          (refine q_pure_n rfl (fun K hK => ?_); go_simp; refine hK _ _ ?_; clear hK K)
          (refine q_write_n rfl (fun K hK => ?_); go_simp; refine fun nw => ⟨_, ⟨_, rfl⟩, hK _ _ ?_⟩; clear hK K)
          refine q_nil ?_
          intro nq
          have HXn := Lib.hid (row_drewN (HXs.out.stored j (.string (wordT h.n))).1 nq)
          have HPn : Hid (∀ t, t < j + 1 → (xs.set j (.string (wordT h.n)))[t]? = some (.string (wordT h.n))) := Lib.hid (fun t ht => by
            rw [List.getElem?_set]
            by_cases e : j = t
            · subst e
              rw [if_pos rfl, if_pos hjx]
            · rw [if_neg e]
              exact HP.out t (by omega))
          have HFn : Hid (Frm (fun r => (Value.slice (some ⟨g, 0, none⟩) h.len c).ownBlock = some r) w3 ((wr.setCell ⟨g, j, none⟩ (.string (wordT h.n))).drewN nq)) := Lib.hid ((HFq.out.set ⟨g, j, none⟩ _ (fun _ => rfl)).drewN nq)
          clear HXs HP HFq b0 b2 hcl hfz
          go_wp2_with fail
          exact ⟨⟨j + 1, _, by omega, by go_num, HXn, HPn, HFn⟩, by simp [intOf]; omega⟩
        · have HXk := Lib.hid (row_full HXs.out (u := .string (wordT h.n)) (fun t ht => HP.out t (by omega)))
          have hv := HV.out
          have HXn : Hid (∀ i (hi : i < hs.length), ∃ xs, wr.ownsRow B 9 1 hs[i].v hs[i].len xs ∧ (i < k + 1 → xs = marks (mkT hs[i].n) hs[i].len)) := Lib.hid (fun i hi => by
            by_cases e : i = k
            · subst e
              rw [← HH.out, hv]
              exact ⟨_, HXk.out, fun _ => rfl⟩
            · obtain ⟨ys, h1, h2⟩ := HX3.out i hi
              refine ⟨ys, HFq.out.row h1 (fun r hr hr2 => e (HA.out i k hi hkl r hr (by rw [← HH.out, hv]; exact hr2))), fun hik => h2 (by omega)⟩)
          have HFn : Hid (Frm (Own hs) w wr) := Lib.hid (HFW.out.trans HFq.out (fun r _ hr => ⟨h, by rw [HH.out]; exact List.getElem_mem hkl, by rw [hv]; exact hr⟩))
          clear HXs HP HFq HX3 HFW HXk hv
          go_wp2_with fail
          exact ⟨⟨k + 1, by omega, by go_num, HXn, HFn⟩, by simp [intOf]; omega⟩
    · go_wp2_with fail
      first | refine bodyPost_end (results_none rfl _ _ _) rfl ?_ | refine bodyPost_ret (results_none rfl _ _ _) rfl ?_
      refine ⟨rfl, fun h hh => ?_, HF.out⟩
      obtain ⟨j, hj, rfl⟩ := List.getElem_of_mem hh
      obtain ⟨xs, h1, h2⟩ := HX.out j hj
      rw [← h2 (by have := HN.out; omega)]
      exact h1
end Go.Proofs.YtpanbijlfijgfaaDoor.Bok
