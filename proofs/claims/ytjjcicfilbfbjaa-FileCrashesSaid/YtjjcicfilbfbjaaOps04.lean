/- Append refused; Sync; Size. -/
import Derived.Test.YtjjcicfilbfbjaaAppendN04
namespace Go.Proofs.Ytjjcicfilbfbjaa.Dsk
open Go.RowKit Go.Proofs.Ytjjcicfilbfbjaa.Pin Go.Proofs.Ytjjcicfilbfbjaa.Gon Go.Proofs.Ytjjcicfilbfbjaa.Mps

theorem append_io (g M N : Nat) (C U : Int) (fs : List Fil) (nm s : ByteArray) (w : World) (h : DiskAt w g M N C U 0 fs) (h1 : 0 < nm.size) (h2 : nm.size ≤ 255) :
    Calls Try.prog 9 #[.pointer (some ⟨g, 0, none⟩), .string nm, .string s] w fun e w' => e = .returned (.int .i64 7) ∧ w = w' := by
  obtain ⟨c0, c1, c2, c3, c4⟩ := h.gcell
  have HT := Lib.hid (there_any g M w c2)
  have HM := Lib.hid (may_yes nm w h1 h2)
  have HC := Lib.hid (can_no N w h.count)
  clear h h1 h2
  go_enter Try.func9, Try.ntmps9
  go_wp2_with fail
  refine HT.out.mono ?_
  rintro e w' ⟨rfl, rfl⟩
  go_wp2_with fail
  refine HM.out.mono ?_
  rintro e w' ⟨rfl, rfl⟩
  go_wp2_with fail
  refine HC.out.mono ?_
  rintro e w' ⟨rfl, rfl⟩
  go_wp2_with fail
  go_ret
  exact ⟨rfl, rfl⟩
theorem append_space (g M N : Nat) (C U n : Int) (fs : List Fil) (nm s : ByteArray) (w : World) (h : DiskAt w g M N C U n fs) (h1 : 0 < nm.size) (h2 : nm.size ≤ 255) (hn : ¬ n = 0) (hU : 0 ≤ U) (hUC : U ≤ C) (hC : C ≤ 1073741824) (hs : C < U + s.size) :
    Calls Try.prog 9 #[.pointer (some ⟨g, 0, none⟩), .string nm, .string s] w fun e w' => e = .returned (.int .i64 8) ∧ ∃ m, w' = w.drewN m := by
  obtain ⟨c0, c1, c2, c3, c4⟩ := h.gcell
  have HT := Lib.hid (there_any g M w c2)
  have HM := Lib.hid (may_yes nm w h1 h2)
  have HC := Lib.hid (can_yes N n w h.count hn)
  have hfit : C - U < (s.size : Int) := by omega
  have hw0 : IntKind.i64.wrap (C - U) = C - U := by rw [IntKind.wrap_i64]; omega
  clear h h1 h2 hn
  go_enter Try.func9, Try.ntmps9
  go_wp2_with fail
  refine HT.out.mono ?_
  rintro e w' ⟨rfl, rfl⟩
  go_wp2_with fail
  refine HM.out.mono ?_
  rintro e w' ⟨rfl, rfl⟩
  go_wp2_with fail
  refine HC.out.mono ?_
  rintro e w' ⟨rfl, rfl⟩
  go_wp2_with fail
  refine wp_region_q [0,0,0,0,0,1,0,0,0,1,0,0,0] (by kernel_rfl) (by kernel_rfl) ?_
  (refine q_pure_n rfl (fun K hK => ?_); go_simp; refine hK _ _ ?_; clear hK K)
  (refine q_pure_n rfl (fun K hK => ?_); go_simp; refine hK _ _ ?_; clear hK K)
  (refine q_pure_n rfl (fun K hK => ?_); go_simp; refine hK _ _ ?_; clear hK K)
  (refine q_pure_n rfl (fun K hK => ?_); go_simp; refine hK _ _ ?_; clear hK K)
  (refine q_pure_n rfl (fun K hK => ?_); go_simp; refine hK _ _ ?_; clear hK K)
  (refine q_read_n rfl (fun K hK => ?_); go_simp; refine hK _ _ ?_; clear hK K)
  (refine q_pure_n rfl (fun K hK => ?_); go_simp; refine hK _ _ ?_; clear hK K)
  (refine q_pure_n rfl (fun K hK => ?_); go_simp; refine hK _ _ ?_; clear hK K)
  (refine q_pure_n rfl (fun K hK => ?_); go_simp; refine hK _ _ ?_; clear hK K)
  (refine q_read_n rfl (fun K hK => ?_); go_simp; refine hK _ _ ?_; clear hK K)
  (refine q_pure_n rfl (fun K hK => ?_); go_simp; refine hK _ _ ?_; clear hK K)
  (refine q_pure_n rfl (fun K hK => ?_); go_simp; refine hK _ _ ?_; clear hK K)
  (refine q_pure_n rfl (fun K hK => ?_); go_simp; refine hK _ _ ?_; clear hK K)
  refine q_nil ?_
  intro nq
  go_wp2_with fail
  go_ret
  exact ⟨rfl, nq, rfl⟩
theorem own_len {w : World} {b : Nat} {e : TypeId} {sz n : Nat} {v : Value} {xs : List Value} (h : w.ownsRow b e sz v n xs) : ∃ p c, v = .slice p n c := by
  rcases h.2 with ⟨rfl, h0⟩ | ⟨g, cap, cur, rfl, _⟩
  · have := h.1
    first
      | (subst h0; exact ⟨_, _, rfl⟩)
      | (obtain rfl := h0; exact ⟨_, _, rfl⟩)
  · exact ⟨_, _, rfl⟩
theorem size_yes (g M N : Nat) (C U n : Int) (fs : List Fil) (f : Fil) (w : World) (h : DiskAt w g M N C U n fs) (hf : f ∈ fs) (hd : (fs.map (·.name)).Nodup) :
    Calls Try.prog 14 #[.pointer (some ⟨g, 0, none⟩), .string f.name] w fun e w' => e = .returned (.tuple #[.int .i64 (f.bytes.size : Int), .int .i64 (f.dur : Int), .int .i64 0]) ∧ ∃ m, w' = w.drewN m := by
  have HF := Lib.hid (find_yes g M N C U n fs f w h hf hd)
  obtain ⟨hc, ho⟩ := h.files f hf
  obtain ⟨p, c, hp⟩ := own_len ho
  have c0 : w.cell? ⟨f.cb, 0, none⟩ = some (.slice p f.bytes.size c) := by rw [Lib.cell_of_heap hc, hp]; rfl
  have c1 : w.cell? ⟨f.cb, 1, none⟩ = some (.int .i64 (f.dur : Int)) := by rw [Lib.cell_of_heap hc]; rfl
  clear h hf hd hc ho hp
  go_enter Try.func14, Try.ntmps14
  go_wp2_with fail
  refine HF.out.mono ?_
  rintro e w' ⟨rfl, rfl⟩
  go_wp2_with fail
  refine wp_region_q [0,0,0,1,0,0,0,0,1,0,0,0] (by kernel_rfl) (by kernel_rfl) ?_
  (refine q_pure_n rfl (fun K hK => ?_); go_simp; refine hK _ _ ?_; clear hK K)
  (refine q_pure_n rfl (fun K hK => ?_); go_simp; refine hK _ _ ?_; clear hK K)
  (refine q_pure_n rfl (fun K hK => ?_); go_simp; refine hK _ _ ?_; clear hK K)
  (refine q_read_n rfl (fun K hK => ?_); go_simp; refine hK _ _ ?_; clear hK K)
  (refine q_pure_n rfl (fun K hK => ?_); go_simp; refine hK _ _ ?_; clear hK K)
  (refine q_pure_n rfl (fun K hK => ?_); go_simp; refine hK _ _ ?_; clear hK K)
  (refine q_pure_n rfl (fun K hK => ?_); go_simp; refine hK _ _ ?_; clear hK K)
  (refine q_pure_n rfl (fun K hK => ?_); go_simp; refine hK _ _ ?_; clear hK K)
  (refine q_read_n rfl (fun K hK => ?_); go_simp; refine hK _ _ ?_; clear hK K)
  (refine q_pure_n rfl (fun K hK => ?_); go_simp; refine hK _ _ ?_; clear hK K)
  (refine q_pure_n rfl (fun K hK => ?_); go_simp; refine hK _ _ ?_; clear hK K)
  (refine q_pure_n rfl (fun K hK => ?_); go_simp; refine hK _ _ ?_; clear hK K)
  refine q_nil ?_
  intro nq
  go_wp2_with fail
  go_ret3
  exact ⟨rfl, nq, rfl⟩
set_option maxHeartbeats 1000000 in
theorem sync_yes (g M N : Nat) (C U n : Int) (la : List Fil) (f : Fil) (lb : List Fil) (w : World) (h : DiskAt w g M N C U n (la ++ f :: lb)) (hd : ((la ++ f :: lb).map (·.name)).Nodup) (hn : ¬ n = 0) (h64 : n < 9223372036854775808) :
    Calls Try.prog 11 #[.pointer (some ⟨g, 0, none⟩), .string f.name] w fun e w' => e = .returned (.int .i64 0) ∧
      DiskAt w' g M N C U (nextn n) (la ++ { f with dur := f.bytes.size } :: lb) ∧ Turned (owns g M N (la ++ f :: lb)) (owns g M N (la ++ f :: lb)) w w' := by
  have H := Lib.hid h
  have hfm : f ∈ la ++ f :: lb := by simp
  have HF := Lib.hid (find_yes g M N C U n _ f w h hfm hd)
  have hap := h.apart
  rw [owns_split, List.nodup_append, List.nodup_append] at hap
  obtain ⟨⟨a1, a2, a3⟩, _, _⟩ := hap
  simp only [List.nodup_cons, List.mem_cons, not_or] at a1
  have hgN : g ≠ N := a1.1.2.1
  have hMN : M ≠ N := a1.2.1.1
  have hcbo : f.cb ∈ f.own := by simp [Fil.own]
  have hgf : f.cb ≠ g := fun e => a3 g (by simp) g (e ▸ hcbo) rfl
  have hNf : f.cb ≠ N := fun e => a3 N (by simp) N (e ▸ hcbo) rfl
  obtain ⟨fc, fo⟩ := h.files f hfm
  obtain ⟨p, c, hp⟩ := own_len fo
  obtain ⟨c0, c1, c2, c3, c4⟩ := h.gcell
  have HW := Lib.hid (write_yes N n w h.count hn h64)
  have HFO := Lib.hid fo
  have HFC := Lib.hid fc
  have HP := Lib.hid hp
  have HA := Lib.hid (show (g ≠ N ∧ M ≠ N ∧ f.cb ≠ g ∧ f.cb ≠ N) from ⟨hgN, hMN, hgf, hNf⟩)
  have HR := Lib.hid (show (∀ r, f.sl.ownBlock = some r → r ≠ f.cb ∧ r ≠ N) from fun r hr => by
    have hm : r ∈ f.own := by simp [Fil.own, hr]
    refine ⟨fun e => ?_, fun e => a3 N (by simp) N (e ▸ hm) rfl⟩
    unfold Fil.own at a2
    rw [hr] at a2
    simp at a2
    exact a2 e.symm)
  clear h hfm a1 a2 a3 hcbo fc fo hp hd hn hgN hMN hgf hNf
  go_enter Try.func11, Try.ntmps11
  go_wp2_with fail
  refine HF.out.mono ?_
  rintro e w' ⟨rfl, rfl⟩
  go_wp2_with fail
  refine HW.out.mono ?_
  rintro e w1 ⟨rfl, hN1, ho1⟩
  have hc1 := (ho1.2.2.2.2 f.cb HA.out.2.2.2).trans HFC.out
  have d0 : w1.cell? ⟨f.cb, 0, none⟩ = some (.slice p f.bytes.size c) := by rw [Lib.cell_of_heap hc1, HP.out]; rfl
  have d1 : w1.cell? ⟨f.cb, 1, none⟩ = some (.int .i64 (f.dur : Int)) := by rw [Lib.cell_of_heap hc1]; rfl
  have e1 : w1.frozen? ⟨f.cb, 1, none⟩ = false := by simp [World.frozen?, hc1]
  have HN1 := Lib.hid hN1
  have HO1 := Lib.hid ho1
  have HC1 := Lib.hid hc1
  clear hN1 ho1 hc1 c0 c1 c2 c3 c4
  go_wp2_with fail
  go_ret
  have hcF : (w1.setCell ⟨f.cb, 1, none⟩ (.int .i64 (f.bytes.size : Int))).heap[f.cb]? = some (.cells #[f.sl, .int .i64 (f.bytes.size : Int)] 66 (0, 0)) := by
    rw [heap_setCell_same _ f.cb 1 _ _ _ HC1.out]
    rfl
  have hoF : ∀ r, r ≠ f.cb → (w1.setCell ⟨f.cb, 1, none⟩ (.int .i64 (f.bytes.size : Int))).heap[r]? = w1.heap[r]? := fun r h1 => Below.heap_setCell _ _ _ _ h1
  have hoW : ∀ r, r < w.heap.size → r ≠ g → r ≠ N → r ∉ f.own → (w1.setCell ⟨f.cb, 1, none⟩ (.int .i64 (f.bytes.size : Int))).heap[r]? = w.heap[r]? := fun r _ _ h2 h3 => by
    rw [hoF r (fun e => h3 (by simp [Fil.own, e]))]
    exact HO1.out.2.2.2.2 r h2
  refine ⟨rfl, ?_, ?_⟩
  · refine H.out.change (f' := { f with dur := f.bytes.size }) rfl rfl (fun r hr => .inl hr) ((hoF g (fun e => HA.out.2.2.1 e.symm)).trans ((HO1.out.2.2.2.2 g HA.out.1).trans H.out.disk)) ((hoF N (fun e => HA.out.2.2.2 e.symm)).trans HN1.out) ⟨hcF, ?_⟩ hoW
    exact ownsRow_same HFO.out (fun k hk => (hoF k (HR.out k hk).1).trans (HO1.out.2.2.2.2 k (HR.out k hk).2))
  · refine ⟨HO1.out.1, HO1.out.2.1, HO1.out.2.2.1, ?_, fun r hr hnr => ?_, fun r hr => .inl hr⟩
    · have := HO1.out.2.2.2.1
      simp [World.setCell]
      omega
    · rw [owns_split] at hnr
      simp only [List.mem_append, List.mem_cons, not_or] at hnr
      exact hoW r hr hnr.1.1.1 hnr.1.1.2.2.1 hnr.1.2
end Go.Proofs.Ytjjcicfilbfbjaa.Dsk
