/- A book looks at its texts: lookText walked. -/
import Derived.Test.YtpanbijlfijgfaaDoorBkG18
namespace Go.Proofs.YtpanbijlfijgfaaDoor.Bok
open Go Go.RowKit Go.Proofs.YtpanbijlfijgfaaDoor.Pin
set_option maxHeartbeats 4000000 in
set_option maxRecDepth 100000 in
theorem look_text (b q cap W0 : Nat) (hs : List Hd) (lo : Nat → Value) (w : World) (hc : w.cell? ⟨b, 3, none⟩ = some (.slice (some ⟨q, 0, none⟩) hs.length cap)) (hrow : RowAt w 71 q hs lo)
    (hg : ∀ i (hi : i < hs.length), Grw mkT w W0 hs[i] (lo i)) (hn : ∀ h ∈ hs, h.n < 100 ∧ h.len ≤ 1099511627776) (hm : hs.length ≤ 1048576) :
    Calls Tryd.prog 46 #[.pointer (some ⟨b, 0, none⟩)] w fun e w' => e = .returned (.bool true) ∧ Below w.heap.size w w' := by
  obtain ⟨N, hN⟩ : ∃ N, N = hs.length := ⟨_, rfl⟩
  have HN := Lib.hid hN
  have HM : Hid (N ≤ 1048576) := Lib.hid (by rw [hN]; exact hm)
  rw [← hN] at hc
  have HC := Lib.hid hc
  have HR := Lib.hid hrow
  have HG := Lib.hid hg
  have HL := Lib.hid hn
  clear hN hm hc hrow hg hn
  go_enter Tryd.func46, Tryd.ntmps46
  go_wp2_with fail
  go_loopw [3] (fun i wr => ∃ k : Nat, k ≤ N ∧ i = .int .i64 (k : Int) ∧ Hid (Below w.heap.size w wr)) (fun i _ => N - (intOf i).toNat)
  case atStart => exact ⟨0, Nat.zero_le _, rfl, Lib.hid (Below.refl _ _)⟩
  case round =>
    obtain ⟨k, hk, rfl, HF⟩ := hrel
    have hN := HM.out
    have c3 : wr.cell? ⟨b, 3, none⟩ = some (.slice (some ⟨q, 0, none⟩) N cap) := (Frm.of_below (own := fun _ => False) HF.out).cell HC.out id
    by_cases hlt : (k : Int) < (N : Int)
    · have hkl : k < hs.length := by have := HN.out; omega
      obtain ⟨h, hh⟩ : ∃ h, h = hs[k] := ⟨_, rfl⟩
      have HRw := Lib.hid (HR.out.frm (Frm.of_below (own := fun _ => False) HF.out) id)
      obtain ⟨r1, r2, r3⟩ := HRw.out.2 k hkl
      have hgk := HG.out k hkl
      rw [← hh] at r1 r3 hgk
      have HLk := Lib.hid (HL.out h (by rw [hh]; exact List.getElem_mem hkl))
      obtain ⟨A, c, hv⟩ := hgk.1.slice
      obtain ⟨A2, c2, hv2⟩ := hgk.2.slice
      rw [hv] at r1
      rw [hv2] at r2
      have HK1 := Lib.hid hgk.1
      have HK2 := Lib.hid hgk.2
      rw [hv] at HK1
      rw [hv2] at HK2
      have hlen := HLk.out.2
      clear hh hv hv2 hgk
      go_wp2_with fail
      obtain ⟨w3, hw3⟩ : ∃ w3, w3 = wr.alloc (.cells #[.slice A h.len c, .slice A2 (h.len + 70) c2, .int .i64 (h.n : Int)] 71) := ⟨_, rfl⟩
      obtain ⟨bx, hbx⟩ : ∃ bx, bx = wr.heap.size := ⟨_, rfl⟩
      have HBX : Hid (w3.heap[bx]? = some (.cells #[.slice A h.len c, .slice A2 (h.len + 70) c2, .int .i64 (h.n : Int)] 71 (0, 0))) := Lib.hid (by rw [hw3, hbx]; exact heap_alloc_new wr _)
      have HF3 : Hid (Below w.heap.size w w3) := Lib.hid (by rw [hw3]; exact HF.out.alloc HF.out.size _)
      have b0 : w3.cell? ⟨bx, 0, none⟩ = some (.slice A h.len c) := by rw [Lib.cell_of_heap HBX.out]; rfl
      have b1 : w3.cell? ⟨bx, 1, none⟩ = some (.slice A2 (h.len + 70) c2) := by rw [Lib.cell_of_heap HBX.out]; rfl
      rw [← hw3]
      rw [← hbx]
      clear hw3 hbx HF c3 r1 r2 r3 HRw
      go_wp2_with fail
      go_loopw [5] (fun i wq => ∃ (j : Nat), j ≤ h.len + 70 ∧ i = .int .i64 (j : Int) ∧ Hid (Below w3.heap.size w3 wq)) (fun i _ => h.len + 70 - (intOf i).toNat)
      case atStart => exact ⟨0, Nat.zero_le _, rfl, Lib.hid (Below.refl _ _)⟩
      case round =>
        obtain ⟨j, hj, rfl, HQ⟩ := hrel
        clear b0 b1
        have hbq : wr.heap[bx]? = some (.cells #[.slice A h.len c, .slice A2 (h.len + 70) c2, .int .i64 (h.n : Int)] 71 (0, 0)) := (HQ.out.block bx (Array.getElem?_eq_some_iff.1 HBX.out).1).trans HBX.out
        have b0 : wr.cell? ⟨bx, 0, none⟩ = some (.slice A h.len c) := by rw [Lib.cell_of_heap hbq]; rfl
        have b1 : wr.cell? ⟨bx, 1, none⟩ = some (.slice A2 (h.len + 70) c2) := by rw [Lib.cell_of_heap hbq]; rfl
        have b2 : wr.cell? ⟨bx, 2, none⟩ = some (.int .i64 (h.n : Int)) := by rw [Lib.cell_of_heap hbq]; rfl
        have hFw : Frm (fun _ => False) w wr := Frm.of_below (HF3.out.trans (HQ.out.mono HF3.out.size))
        by_cases hlj : (j : Int) < (h.len : Int) + 70
        · obtain ⟨g2, rfl, _, _, hm2⟩ := HK2.out.get j (by omega)
          have m2 : wr.cell? ⟨g2, j, none⟩ = some (.string (wordT h.n)) := by
            have := hFw.cell (hm2 0 _ rfl) id
            rwa [Nat.mul_one, Nat.add_zero] at this
          have HIS := Lib.hid (fun w => is_text h.n HLk.out.1 w)
          clear hm2
          by_cases hjl : j < h.len
          · obtain ⟨g, rfl, _, _, hm1⟩ := HK1.out.get j hjl
            have m1 : wr.cell? ⟨g, j, none⟩ = some (.string (wordT h.n)) := by
              have := hFw.cell (hm1 0 _ rfl) id
              rwa [Nat.mul_one, Nat.add_zero] at this
            have hd : decide (j < h.len) = true := by simpa using hjl
            clear hm1 hFw hbq
            go_wp2_with fail
            refine wp_region_q [0,1,0,0,1,0,1,1,0,0,0,0,1,0,0,0,0,1,0,0,1,0,1,1,0,0,0] (by kernel_rfl) (by kernel_rfl) ?_
            (refine q_pure_n rfl (fun K hK => ?_); go_simp; refine hK _ _ ?_; clear hK K)
            (refine q_read_n rfl (fun K hK => ?_); go_simp; refine hK _ _ ?_; clear hK K)
            (refine q_pure_n rfl (fun K hK => ?_); go_simp; refine hK _ _ ?_; clear hK K)
            (refine q_pure_n rfl (fun K hK => ?_); go_simp; refine hK _ _ ?_; clear hK K)
            (refine q_read_n rfl (fun K hK => ?_); go_simp; refine hK _ _ ?_; clear hK K)
            (refine q_pure_n rfl (fun K hK => ?_); go_simp; refine hK _ _ ?_; clear hK K)
            (refine q_read_n rfl (fun K hK => ?_); go_simp; refine hK _ _ ?_; clear hK K)
            (refine q_read_n rfl (fun K hK => ?_); go_simp; apply Exists.intro; refine ⟨fun nw => ?_, hK _ _ ?_⟩; (exact read_same (HIS.out _)); clear hK K)
            (refine q_pure_n rfl (fun K hK => ?_); go_simp; refine hK _ _ ?_; clear hK K)
            (refine q_pure_n rfl (fun K hK => ?_); go_simp; refine hK _ _ ?_; clear hK K)
            first | (refine q_pure_x rfl ?hy (fun K hK => ?_); (case hy => rfl); go_simp; refine hK _ _ ?_; clear hK K) | (refine q_pure_u rfl ?hy (fun K hK => ?_); (case hy => rfl); go_simp; refine hK _ _ ?_; clear hK K) | (refine q_pure_y rfl ?hy (fun K hK => ?_); (case hy => rfl); go_simp; refine hK _ _ ?_; clear hK K)
            first | (refine q_pure_x rfl ?hy (fun K hK => ?_); (case hy => rfl); go_simp; refine hK _ _ ?_; clear hK K) | (refine q_pure_u rfl ?hy (fun K hK => ?_); (case hy => rfl); go_simp; refine hK _ _ ?_; clear hK K) | (refine q_pure_y rfl ?hy (fun K hK => ?_); (case hy => rfl); go_simp; refine hK _ _ ?_; clear hK K)
            first | (refine q_read_x rfl ?hy (fun K hK => ?_); (case hy => rfl); go_simp; refine hK _ _ ?_; clear hK K) | (refine q_read_u rfl ?hy (fun K hK => ?_); (case hy => rfl); go_simp; refine hK _ _ ?_; clear hK K) | (refine q_read_y rfl ?hy (fun K hK => ?_); (case hy => rfl); go_simp; refine hK _ _ ?_; clear hK K)
            first | (refine q_pure_x rfl ?hy (fun K hK => ?_); (case hy => rfl); go_simp; refine hK _ _ ?_; clear hK K) | (refine q_pure_u rfl ?hy (fun K hK => ?_); (case hy => rfl); go_simp; refine hK _ _ ?_; clear hK K) | (refine q_pure_y rfl ?hy (fun K hK => ?_); (case hy => rfl); go_simp; refine hK _ _ ?_; clear hK K)
            first | (refine q_pure_x rfl ?hy (fun K hK => ?_); (case hy => rfl); go_simp; refine hK _ _ ?_; clear hK K) | (refine q_pure_u rfl ?hy (fun K hK => ?_); (case hy => rfl); go_simp; refine hK _ _ ?_; clear hK K) | (refine q_pure_y rfl ?hy (fun K hK => ?_); (case hy => rfl); go_simp; refine hK _ _ ?_; clear hK K)
            first | (refine q_pure_x rfl ?hy (fun K hK => ?_); (case hy => rfl); go_simp; refine hK _ _ ?_; clear hK K) | (refine q_pure_u rfl ?hy (fun K hK => ?_); (case hy => rfl); go_simp; refine hK _ _ ?_; clear hK K) | (refine q_pure_y rfl ?hy (fun K hK => ?_); (case hy => rfl); go_simp; refine hK _ _ ?_; clear hK K)
            first | (refine q_pure_x rfl ?hy (fun K hK => ?_); (case hy => rfl); go_simp; refine hK _ _ ?_; clear hK K) | (refine q_pure_u rfl ?hy (fun K hK => ?_); (case hy => rfl); go_simp; refine hK _ _ ?_; clear hK K) | (refine q_pure_y rfl ?hy (fun K hK => ?_); (case hy => rfl); go_simp; refine hK _ _ ?_; clear hK K)
            first | (refine q_read_x rfl ?hy (fun K hK => ?_); (case hy => rfl); go_simp; refine hK _ _ ?_; clear hK K) | (refine q_read_u rfl ?hy (fun K hK => ?_); (case hy => rfl); go_simp; refine hK _ _ ?_; clear hK K) | (refine q_read_y rfl ?hy (fun K hK => ?_); (case hy => rfl); go_simp; refine hK _ _ ?_; clear hK K)
            first | (refine q_pure_x rfl ?hy (fun K hK => ?_); (case hy => rfl); go_simp; refine hK _ _ ?_; clear hK K) | (refine q_pure_u rfl ?hy (fun K hK => ?_); (case hy => rfl); go_simp; refine hK _ _ ?_; clear hK K) | (refine q_pure_y rfl ?hy (fun K hK => ?_); (case hy => rfl); go_simp; refine hK _ _ ?_; clear hK K)
            first | (refine q_pure_x rfl ?hy (fun K hK => ?_); (case hy => rfl); go_simp; refine hK _ _ ?_; clear hK K) | (refine q_pure_u rfl ?hy (fun K hK => ?_); (case hy => rfl); go_simp; refine hK _ _ ?_; clear hK K) | (refine q_pure_y rfl ?hy (fun K hK => ?_); (case hy => rfl); go_simp; refine hK _ _ ?_; clear hK K)
            first | (refine q_read_x rfl ?hy (fun K hK => ?_); (case hy => rfl); go_simp; refine hK _ _ ?_; clear hK K) | (refine q_read_u rfl ?hy (fun K hK => ?_); (case hy => rfl); go_simp; refine hK _ _ ?_; clear hK K) | (refine q_read_y rfl ?hy (fun K hK => ?_); (case hy => rfl); go_simp; refine hK _ _ ?_; clear hK K)
            first | (refine q_pure_x rfl ?hy (fun K hK => ?_); (case hy => rfl); go_simp; refine hK _ _ ?_; clear hK K) | (refine q_pure_u rfl ?hy (fun K hK => ?_); (case hy => rfl); go_simp; refine hK _ _ ?_; clear hK K) | (refine q_pure_y rfl ?hy (fun K hK => ?_); (case hy => rfl); go_simp; refine hK _ _ ?_; clear hK K)
            first | (refine q_read_x rfl ?hy (fun K hK => ?_); (case hy => rfl); go_simp; refine hK _ _ ?_; clear hK K) | (refine q_read_u rfl ?hy (fun K hK => ?_); (case hy => rfl); go_simp; refine hK _ _ ?_; clear hK K) | (refine q_read_y rfl ?hy (fun K hK => ?_); (case hy => rfl); go_simp; refine hK _ _ ?_; clear hK K)
            first | (refine q_read_x rfl ?hy (fun K hK => ?_); (case hy => rfl); go_simp; refine hK _ _ ?_; clear hK K) | (refine q_read_u rfl ?hy (fun K hK => ?_); (case hy => rfl); go_simp; refine hK _ _ ?_; clear hK K) | (refine q_read_y rfl ?hy (fun K hK => ?_); (case hy => rfl); go_simp; apply Exists.intro; refine ⟨fun nw => ?_, hK _ _ ?_⟩; (exact read_same (HIS.out _)); clear hK K)
            first | (refine q_pure_x rfl ?hy (fun K hK => ?_); (case hy => rfl); go_simp; refine hK _ _ ?_; clear hK K) | (refine q_pure_u rfl ?hy (fun K hK => ?_); (case hy => rfl); go_simp; refine hK _ _ ?_; clear hK K) | (refine q_pure_y rfl ?hy (fun K hK => ?_); (case hy => rfl); go_simp; refine hK _ _ ?_; clear hK K)
            first | (refine q_pure_x rfl ?hy (fun K hK => ?_); (case hy => rfl); go_simp; refine hK _ _ ?_; clear hK K) | (refine q_pure_u rfl ?hy (fun K hK => ?_); (case hy => rfl); go_simp; refine hK _ _ ?_; clear hK K) | (refine q_pure_y rfl ?hy (fun K hK => ?_); (case hy => rfl); go_simp; refine hK _ _ ?_; clear hK K)
            (refine q_pure_n rfl (fun K hK => ?_); go_simp; refine hK _ _ ?_; clear hK K)
            refine q_nil ?_
            intro nq
            go_wp2_with fail
            exact ⟨⟨j + 1, by omega, by go_num, Lib.hid (below_drewN HQ.out _)⟩, by simp [intOf]; omega⟩
          · have hd : decide (j < h.len) = false := by simpa using hjl
            clear hFw hbq
            go_wp2_with fail
            refine wp_region_q [0,1,0,0,1,0,1,1,0,0,0,0,1,0,0,0,0,1,0,0,1,0,1,1,0,0,0] (by kernel_rfl) (by kernel_rfl) ?_
            (refine q_pure_n rfl (fun K hK => ?_); go_simp; refine hK _ _ ?_; clear hK K)
            (refine q_read_n rfl (fun K hK => ?_); go_simp; refine hK _ _ ?_; clear hK K)
            (refine q_pure_n rfl (fun K hK => ?_); go_simp; refine hK _ _ ?_; clear hK K)
            (refine q_pure_n rfl (fun K hK => ?_); go_simp; refine hK _ _ ?_; clear hK K)
            (refine q_read_n rfl (fun K hK => ?_); go_simp; refine hK _ _ ?_; clear hK K)
            (refine q_pure_n rfl (fun K hK => ?_); go_simp; refine hK _ _ ?_; clear hK K)
            (refine q_read_n rfl (fun K hK => ?_); go_simp; refine hK _ _ ?_; clear hK K)
            (refine q_read_n rfl (fun K hK => ?_); go_simp; apply Exists.intro; refine ⟨fun nw => ?_, hK _ _ ?_⟩; (exact read_same (HIS.out _)); clear hK K)
            (refine q_pure_n rfl (fun K hK => ?_); go_simp; refine hK _ _ ?_; clear hK K)
            (refine q_pure_n rfl (fun K hK => ?_); go_simp; refine hK _ _ ?_; clear hK K)
            first | (refine q_pure_x rfl ?hy (fun K hK => ?_); (case hy => rfl); go_simp; refine hK _ _ ?_; clear hK K) | (refine q_pure_u rfl ?hy (fun K hK => ?_); (case hy => rfl); go_simp; refine hK _ _ ?_; clear hK K) | (refine q_pure_y rfl ?hy (fun K hK => ?_); (case hy => rfl); go_simp; refine hK _ _ ?_; clear hK K)
            first | (refine q_pure_x rfl ?hy (fun K hK => ?_); (case hy => rfl); go_simp; refine hK _ _ ?_; clear hK K) | (refine q_pure_u rfl ?hy (fun K hK => ?_); (case hy => rfl); go_simp; refine hK _ _ ?_; clear hK K) | (refine q_pure_y rfl ?hy (fun K hK => ?_); (case hy => rfl); go_simp; refine hK _ _ ?_; clear hK K)
            first | (refine q_read_x rfl ?hy (fun K hK => ?_); (case hy => rfl); go_simp; refine hK _ _ ?_; clear hK K) | (refine q_read_u rfl ?hy (fun K hK => ?_); (case hy => rfl); go_simp; refine hK _ _ ?_; clear hK K) | (refine q_read_y rfl ?hy (fun K hK => ?_); (case hy => rfl); go_simp; refine hK _ _ ?_; clear hK K)
            first | (refine q_pure_x rfl ?hy (fun K hK => ?_); (case hy => rfl); go_simp; refine hK _ _ ?_; clear hK K) | (refine q_pure_u rfl ?hy (fun K hK => ?_); (case hy => rfl); go_simp; refine hK _ _ ?_; clear hK K) | (refine q_pure_y rfl ?hy (fun K hK => ?_); (case hy => rfl); go_simp; refine hK _ _ ?_; clear hK K)
            first | (refine q_pure_x rfl ?hy (fun K hK => ?_); (case hy => rfl); go_simp; refine hK _ _ ?_; clear hK K) | (refine q_pure_u rfl ?hy (fun K hK => ?_); (case hy => rfl); go_simp; refine hK _ _ ?_; clear hK K) | (refine q_pure_y rfl ?hy (fun K hK => ?_); (case hy => rfl); go_simp; refine hK _ _ ?_; clear hK K)
            first | (refine q_pure_x rfl ?hy (fun K hK => ?_); (case hy => rfl); go_simp; refine hK _ _ ?_; clear hK K) | (refine q_pure_u rfl ?hy (fun K hK => ?_); (case hy => rfl); go_simp; refine hK _ _ ?_; clear hK K) | (refine q_pure_y rfl ?hy (fun K hK => ?_); (case hy => rfl); go_simp; refine hK _ _ ?_; clear hK K)
            first | (refine q_pure_x rfl ?hy (fun K hK => ?_); (case hy => rfl); go_simp; refine hK _ _ ?_; clear hK K) | (refine q_pure_u rfl ?hy (fun K hK => ?_); (case hy => rfl); go_simp; refine hK _ _ ?_; clear hK K) | (refine q_pure_y rfl ?hy (fun K hK => ?_); (case hy => rfl); go_simp; refine hK _ _ ?_; clear hK K)
            first | (refine q_read_x rfl ?hy (fun K hK => ?_); (case hy => rfl); go_simp; refine hK _ _ ?_; clear hK K) | (refine q_read_u rfl ?hy (fun K hK => ?_); (case hy => rfl); go_simp; refine hK _ _ ?_; clear hK K) | (refine q_read_y rfl ?hy (fun K hK => ?_); (case hy => rfl); go_simp; refine hK _ _ ?_; clear hK K)
            first | (refine q_pure_x rfl ?hy (fun K hK => ?_); (case hy => rfl); go_simp; refine hK _ _ ?_; clear hK K) | (refine q_pure_u rfl ?hy (fun K hK => ?_); (case hy => rfl); go_simp; refine hK _ _ ?_; clear hK K) | (refine q_pure_y rfl ?hy (fun K hK => ?_); (case hy => rfl); go_simp; refine hK _ _ ?_; clear hK K)
            first | (refine q_pure_x rfl ?hy (fun K hK => ?_); (case hy => rfl); go_simp; refine hK _ _ ?_; clear hK K) | (refine q_pure_u rfl ?hy (fun K hK => ?_); (case hy => rfl); go_simp; refine hK _ _ ?_; clear hK K) | (refine q_pure_y rfl ?hy (fun K hK => ?_); (case hy => rfl); go_simp; refine hK _ _ ?_; clear hK K)
            first | (refine q_read_x rfl ?hy (fun K hK => ?_); (case hy => rfl); go_simp; refine hK _ _ ?_; clear hK K) | (refine q_read_u rfl ?hy (fun K hK => ?_); (case hy => rfl); go_simp; refine hK _ _ ?_; clear hK K) | (refine q_read_y rfl ?hy (fun K hK => ?_); (case hy => rfl); go_simp; refine hK _ _ ?_; clear hK K)
            first | (refine q_pure_x rfl ?hy (fun K hK => ?_); (case hy => rfl); go_simp; refine hK _ _ ?_; clear hK K) | (refine q_pure_u rfl ?hy (fun K hK => ?_); (case hy => rfl); go_simp; refine hK _ _ ?_; clear hK K) | (refine q_pure_y rfl ?hy (fun K hK => ?_); (case hy => rfl); go_simp; refine hK _ _ ?_; clear hK K)
            first | (refine q_read_x rfl ?hy (fun K hK => ?_); (case hy => rfl); go_simp; refine hK _ _ ?_; clear hK K) | (refine q_read_u rfl ?hy (fun K hK => ?_); (case hy => rfl); go_simp; refine hK _ _ ?_; clear hK K) | (refine q_read_y rfl ?hy (fun K hK => ?_); (case hy => rfl); go_simp; refine hK _ _ ?_; clear hK K)
            first | (refine q_read_x rfl ?hy (fun K hK => ?_); (case hy => rfl); go_simp; refine hK _ _ ?_; clear hK K) | (refine q_read_u rfl ?hy (fun K hK => ?_); (case hy => rfl); go_simp; refine hK _ _ ?_; clear hK K) | (refine q_read_y rfl ?hy (fun K hK => ?_); (case hy => rfl); go_simp; apply Exists.intro; refine ⟨fun nw => ?_, hK _ _ ?_⟩; (exact read_same (HIS.out _)); clear hK K)
            first | (refine q_pure_x rfl ?hy (fun K hK => ?_); (case hy => rfl); go_simp; refine hK _ _ ?_; clear hK K) | (refine q_pure_u rfl ?hy (fun K hK => ?_); (case hy => rfl); go_simp; refine hK _ _ ?_; clear hK K) | (refine q_pure_y rfl ?hy (fun K hK => ?_); (case hy => rfl); go_simp; refine hK _ _ ?_; clear hK K)
            first | (refine q_pure_x rfl ?hy (fun K hK => ?_); (case hy => rfl); go_simp; refine hK _ _ ?_; clear hK K) | (refine q_pure_u rfl ?hy (fun K hK => ?_); (case hy => rfl); go_simp; refine hK _ _ ?_; clear hK K) | (refine q_pure_y rfl ?hy (fun K hK => ?_); (case hy => rfl); go_simp; refine hK _ _ ?_; clear hK K)
            (refine q_pure_n rfl (fun K hK => ?_); go_simp; refine hK _ _ ?_; clear hK K)
            refine q_nil ?_
            intro nq
            go_wp2_with fail
            exact ⟨⟨j + 1, by omega, by go_num, Lib.hid (below_drewN HQ.out _)⟩, by simp [intOf]; omega⟩
        · have HFn : Hid (Below w.heap.size w wr) := Lib.hid (HF3.out.trans (HQ.out.mono HF3.out.size))
          clear hFw hbq
          go_wp2_with fail
          exact ⟨⟨k + 1, by omega, by go_num, HFn⟩, by simp [intOf]; omega⟩
    · go_wp2_with fail
      go_ret
      exact ⟨rfl, HF.out⟩
end Go.Proofs.YtpanbijlfijgfaaDoor.Bok
