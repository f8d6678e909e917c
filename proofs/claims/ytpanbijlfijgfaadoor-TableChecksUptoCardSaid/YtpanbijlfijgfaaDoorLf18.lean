/- Chapter 18: a command that is left as it was; the document's fault. -/
import Derived.Test.YtpanbijlfijgfaaDoorTx18
namespace Go.Proofs.YtpanbijlfijgfaaDoor.Bok
open Go Go.RowKit Go.Proofs.YtpanbijlfijgfaaDoor.Pin Go.Proofs.YtpanbijlfijgfaaDoor.Fnd
set_option maxHeartbeats 2000000 in
set_option maxRecDepth 100000 in
theorem left_texts (B : Nat) (l : List ByteArray) (g : Nat) (p : Option Addr) (c : Nat) (w : World) (h1 : w.ownsRow B 9 1 (.slice (some ⟨g, 0, none⟩) (l.length + 1) (l.length + 1)) (l.length + 1) (l.map Value.string ++ [.string spare])) (h2 : Strs w p l) (hl : l.length ≤ 1048576) :
    Calls Tryd.prog 24 #[.slice (some ⟨g, 0, none⟩) l.length (l.length + 1), .slice p l.length c] w fun e w' => e = .returned (.bool true) ∧ Below w.heap.size w w' := by
  obtain ⟨N, hN⟩ : ∃ N, N = l.length := ⟨_, rfl⟩
  have HN := Lib.hid hN
  have hl2 : N ≤ 1048576 := by omega
  have HG : Hid (∀ k (h : k < l.length), w.cell? ⟨g, k, none⟩ = some (.string l[k])) := Lib.hid (fun k hk => by
    rw [h1.cellAt k (by omega), List.getElem?_append_left (by simpa using hk)]
    simp [hk])
  have HS : Hid (w.cell? ⟨g, N, none⟩ = some (.string spare)) := Lib.hid (by
    rw [hN, h1.cellAt l.length (by omega), List.getElem?_append_right (by simp)]
    simp)
  have HGL : Hid (g < w.heap.size) := Lib.hid (h1.lt g rfl).2
  rw [← hN]
  have H2 := Lib.hid h2
  clear hN h1 h2 hl
  have hsp : ((⟨#[115, 112, 97, 114, 101]⟩ : ByteArray).toList == (⟨#[115, 112, 97, 114, 101]⟩ : ByteArray).toList) = true := by simp
  go_enter Tryd.func24, Tryd.ntmps24
  go_wp2_with fail
  go_loopw [5] (fun i wr => ∃ k : Nat, k ≤ N ∧ i = .int .i64 k ∧ Hid (Below w.heap.size w wr)) (fun i _ => N - (intOf i).toNat)
  case atStart => exact ⟨0, Nat.zero_le _, rfl, Lib.hid (Below.refl _ _)⟩
  case round =>
    obtain ⟨k, hk, rfl, HB⟩ := hrel
    by_cases hlt : (k : Int) < (N : Int)
    · have hkl : k < l.length := by have := HN.out; omega
      have hc := HG.out k hkl
      obtain ⟨g', o', rfl, hg', hc'⟩ := H2.out k hkl
      obtain ⟨x, hx⟩ : ∃ x, x = l[k] := ⟨_, rfl⟩
      rw [← hx] at hc hc'
      have x1 : wr.cell? ⟨g, k, none⟩ = some (.string x) := (HB.out.cell (p := ⟨g, _, none⟩) HGL.out).trans hc
      have y1 : wr.cell? ⟨g', o' + k, none⟩ = some (.string x) := (HB.out.cell (p := ⟨g', _, none⟩) hg').trans hc'
      have hne : (x.toList != x.toList) = false := by simp
      clear hx hc hc'
      go_wp2_with fail
      refine wp_region_q [0,0,0,1,0,0,0,1,0] (by kernel_rfl) (by kernel_rfl) ?_
      (refine q_pure_n rfl (fun K hK => ?_); go_simp; refine hK _ _ ?_; clear hK K)
      (refine q_pure_n rfl (fun K hK => ?_); go_simp; refine hK _ _ ?_; clear hK K)
      (refine q_pure_n rfl (fun K hK => ?_); go_simp; refine hK _ _ ?_; clear hK K)
      (refine q_read_n rfl (fun K hK => ?_); go_simp; refine hK _ _ ?_; clear hK K)
      (refine q_pure_n rfl (fun K hK => ?_); go_simp; refine hK _ _ ?_; clear hK K)
      (refine q_pure_n rfl (fun K hK => ?_); go_simp; refine hK _ _ ?_; clear hK K)
      (refine q_pure_n rfl (fun K hK => ?_); go_simp; refine hK _ _ ?_; clear hK K)
      (refine q_read_n rfl (fun K hK => ?_); go_simp; refine hK _ _ ?_; clear hK K)
      (refine q_pure_n rfl (fun K hK => ?_); go_simp; refine hK _ _ ?_; clear hK K)
      refine q_nil ?_
      intro nq
      go_wp2_with fail
      exact ⟨⟨k + 1, by omega, by go_num, Lib.hid (below_drewN HB.out _)⟩, by simp [intOf]; omega⟩
    · have s1 : wr.cell? ⟨g, N, none⟩ = some (.string ⟨#[115, 112, 97, 114, 101]⟩) := (HB.out.cell (p := ⟨g, _, none⟩) HGL.out).trans HS.out
      go_wp2_with fail
      go_ret
      exact ⟨rfl, HB.out⟩
theorem left_command (B : Nat) (l : List ByteArray) (g : Nat) (p : Option Addr) (c : Nat) (w : World) (h1 : w.ownsRow B 9 1 (.slice (some ⟨g, 0, none⟩) (l.length + 1) (l.length + 1)) (l.length + 1) (l.map Value.string ++ [.string spare])) (h2 : Strs w p l) (hl : l.length ≤ 1048576) :
    Calls Tryd.prog 11 #[.slice (some ⟨g, 0, none⟩) l.length (l.length + 1), .slice p l.length c] w fun e w' => e = .returned (.bool true) ∧ Below w.heap.size w w' := by
  have HC := Lib.hid (left_texts B l g p c w h1 h2 hl)
  clear h1 h2
  go_enter Tryd.func11, Tryd.ntmps11
  go_wp2_with fail
  refine HC.out.mono ?_
  rintro e w' ⟨rfl, hb⟩
  go_wp2_with fail
  go_ret
  exact ⟨rfl, hb⟩
set_option maxHeartbeats 400000 in
theorem ref_fault (t : ByteArray) (w : World) :
    Calls Tryd.prog 21 #[.string t] w fun r w' => r = .returned (repV 2 t) ∧ Below w.heap.size w w' := by
  go_enter Tryd.func21, Tryd.ntmps21
  go_wp2_with fail
  exact bodyPost_ret (results_cell_row (fn := Tryd.f21) (p := 2) (ty := 28) rfl _ _ w.heap.size 28 #[.int .u8 2, .string t, .int .i64 0, .slice none 0 0] (0, 0) _ rfl (heap_alloc_new w _) Tryd.underlying28 rfl rep_info) rfl ⟨rfl, (Below.refl _ w).alloc (Nat.le_refl _) _⟩
end Go.Proofs.YtpanbijlfijgfaaDoor.Bok
