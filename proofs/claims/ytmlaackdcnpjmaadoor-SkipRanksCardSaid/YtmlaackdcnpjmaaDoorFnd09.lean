/- Chapter 09: where a member is, or would be. -/
import Derived.Test.YtmlaackdcnpjmaaDoorSk09
import Derived.Test.YtmlaackdcnpjmaaDoorPinR
namespace Go.Proofs.YtmlaackdcnpjmaaDoor.Skp
open Go Go.RowKit Go.Proofs.YtmlaackdcnpjmaaDoor.Pin Go.Proofs.YtmlaackdcnpjmaaDoor.Flt
theorem find1_any (m x : Sc) (b : Nat) (w : World) (h0 : w.cell? ⟨b, 0, none⟩ = some (.string m.1)) (h1 : w.cell? ⟨b, 1, none⟩ = some (.float .f64 m.2)) :
    Calls Tryd.prog 36 #[scV x, .pointer (some ⟨b, 0, none⟩)] w fun e w' => e = .returned (.bool (lessB x m)) ∧ Below w.heap.size w w' := by
  have hb : b < w.heap.size := World.block_lt_of_cell? w ⟨b, 0, none⟩ h0
  have HL := Lib.hid (less_any x m (w.alloc (.cells #[.string x.1, .float .f64 x.2] 31)))
  go_enter Tryd.func36, Tryd.ntmps36
  go_wp2_with fail
  refine HL.out.mono ?_
  rintro e w' ⟨rfl, hb2⟩
  have HB := Lib.hid (((Below.refl w.heap.size w).alloc (Nat.le_refl _) (.cells #[.string x.1, .float .f64 x.2] 31)).trans (hb2.mono (by simp)))
  clear hb2
  go_wp2_with fail
  go_ret
  exact ⟨rfl, HB.out⟩
theorem three_new (w : World) (o1 o2 o3 : Obj) : (((w.alloc o1).alloc o2).alloc o3).heap[w.heap.size]? = some o1 ∧ (((w.alloc o1).alloc o2).alloc o3).heap[w.heap.size + 1]? = some o2 ∧ (((w.alloc o1).alloc o2).alloc o3).heap[w.heap.size + 2]? = some o3 ∧ Below w.heap.size w (((w.alloc o1).alloc o2).alloc o3) ∧ (((w.alloc o1).alloc o2).alloc o3).heap.size = w.heap.size + 3 := by
  obtain ⟨h1, h2⟩ := two_new (w.alloc o1) o2 o3
  have hs : (w.alloc o1).heap.size = w.heap.size + 1 := by simp
  rw [hs] at h1 h2
  exact ⟨(Lib.alloc_old _ _ _ (by simp; omega)).trans ((Lib.alloc_old _ _ _ (by simp)).trans (heap_alloc_new w _)), h1, h2, (((Below.refl _ w).alloc (Nat.le_refl _) _).alloc (by simp) _).alloc (by simp; omega) _, by simp⟩
theorem info_nodes : (Tryd.prog.info? 65).map (·.size) = some 32 := by kernel_rfl
theorem info_ints : (Tryd.prog.info? 66).map (·.size) = some 32 := by kernel_rfl
theorem results_rows3 {Pr : Program} {fn : Func} {p u x : Tmp} {t4 t5 : TypeId} (h : fn.results = #[.cell p t4, .cell u t5, .tmp x]) (tmps : Array Value) (w : World) (g1 g2 : Nat) (A K : Array Value) (n1 n2 : Nat) (e1 e2 : TypeId)
    (hp : tmps.getD p undef = .pointer (some ⟨g1, 0, none⟩)) (hu : tmps.getD u undef = .pointer (some ⟨g2, 0, none⟩)) (hA : w.heap[g1]? = some (.cells A t4 (0, 0))) (hK : w.heap[g2]? = some (.cells K t5 (0, 0)))
    (u1 : Pr.underlying t4 = some (.array n1 e1)) (u2 : Pr.underlying t5 = some (.array n2 e2)) (i1 : (Pr.info? t4).map (·.size) = some A.size) (i2 : (Pr.info? t5).map (·.size) = some K.size) :
    (results fn tmps).run Pr w = .ok (.tuple #[.agg A, .agg K, tmps.getD x undef]) w := by
  have hp' : tmps[p]?.getD undef = .pointer (some ⟨g1, 0, none⟩) := by simpa using hp
  have hu' : tmps[u]?.getD undef = .pointer (some ⟨g2, 0, none⟩) := by simpa using hu
  simp [results, h, hp', hu', asAddr, run_loadVar_row w g1 t4 t4 A (0, 0) _ hA u1 rfl i1, run_loadVar_row w g2 t5 t5 K (0, 0) _ hK u2 rfl i2, Result.andThen]
/-- the two arrays laid into their variables -/
theorem rows_laid {w1 : World} {g : Nat} {A K O1 O2 : Array Value} (h1 : w1.heap[g]? = some (.cells O1 65 (0, 0))) (h2 : w1.heap[g + 1]? = some (.cells O2 66 (0, 0))) :
    (w1.setRow g A).heap[g + 1]? = some (.cells O2 66 (0, 0)) ∧ ((w1.setRow g A).setRow (g + 1) K).heap[g]? = some (.cells A 65 (0, 0)) ∧ ((w1.setRow g A).setRow (g + 1) K).heap[g + 1]? = some (.cells K 66 (0, 0)) ∧ ∀ r, r ≠ g → r ≠ g + 1 → ((w1.setRow g A).setRow (g + 1) K).heap[r]? = w1.heap[r]? := by
  have k1 : (w1.setRow g A).heap[g + 1]? = some (.cells O2 66 (0, 0)) := (setRow_other _ _ _ _ (by omega)).trans h2
  exact ⟨k1, (setRow_other _ _ _ _ (by omega)).trans (setRow_heap _ _ _ _ _ _ h1), setRow_heap _ _ _ _ _ _ k1, fun r r1 r2 => (setRow_other _ _ _ _ r2).trans (setRow_other _ _ _ _ r1)⟩
theorem below_setRow {n : Nat} {w w1 : World} (h : Below n w w1) {g : Nat} (hg : n ≤ g) (cs : Array Value) : Below n w (w1.setRow g cs) :=
  ⟨h.os, h.tape, h.output, by simpa [World.setRow] using h.size, fun k hk => (setRow_other _ _ _ _ (by omega)).trans (h.block k hk)⟩
/-- is the member behind position P m itself? -/
def hitB (n : Nat) (mem : Nat → Sc) (P : Nat) (m : Sc) : Bool := decide (P < n) && (fEq (mem (P + 1)).2 m.2 && (mem (P + 1)).1.toList == m.1.toList)
set_option maxHeartbeats 1000000 in
set_option maxRecDepth 100000 in
theorem find_any {own : Nat → Prop} {s seed n : Nat} {bl ht : Nat → Nat} {mem : Nat → Sc} (m : Sc) (P : Nat) (w : World) (hS : Sk w own s seed n bl ht mem) (hP : P ≤ n) (hq : ∀ p, 0 < p → p ≤ n → (lessB (mem p) m = true ↔ p ≤ P)) :
    Calls Tryd.prog 26 #[.pointer (some ⟨s, 0, none⟩), scV m] w fun e w' => (∃ A K, e = .returned (.tuple #[.agg A, .agg K, .bool (hitB n mem P m)]) ∧ Ways A K bl ht P 0) ∧ Below w.heap.size w w' := by
  have HS := Lib.hid hS
  have HP := Lib.hid hP
  have HWK : Hid (∀ W b, Below w.heap.size w W → W.cell? ⟨b, 0, none⟩ = some (.string m.1) → W.cell? ⟨b, 1, none⟩ = some (.float .f64 m.2) → Calls Tryd.prog 28 #[.pointer (some ⟨s, 0, none⟩), .func (.func 36) #[] #[.pointer (some ⟨b, 0, none⟩)]] W fun e w' => (∃ A K, e = .returned (.tuple #[.agg A, .agg K]) ∧ Ways A K bl ht P 0) ∧ Below W.heap.size W w') := Lib.hid (fun W b hW h0 h1 =>
    walk_any 36 #[.pointer (some ⟨b, 0, none⟩)] (fun x => lessB x m) P W (hS.below hW) hP hq (fun W m => by kernel_rfl) (fun W' x hW' => find1_any m x b W' ((hW'.cell (p := ⟨b, 0, none⟩) (World.block_lt_of_cell? W ⟨b, 0, none⟩ h0)).trans h0) ((hW'.cell (p := ⟨b, 1, none⟩) (World.block_lt_of_cell? W ⟨b, 1, none⟩ h1)).trans h1)))
  clear hS hP hq
  go_enter Tryd.func26, Tryd.ntmps26
  go_wp2_with fail
  refine (HWK.out _ w.heap.size (three_new w _ _ _).2.2.2.1 (by rw [Lib.cell_of_heap (three_new w _ _ _).1]; rfl) (by rw [Lib.cell_of_heap (three_new w _ _ _).1]; rfl)).mono ?_
  rintro e w1 ⟨⟨A, K, rfl, hW⟩, hb1⟩
  have hsz := (three_new w (.cells #[.string m.1, .float .f64 m.2] 31) (.cells (Array.replicate 32 (.pointer none)) 65) (.cells (Array.replicate 32 (.int .i64 0)) 66)).2.2.2.2
  have hB0 := (hb1.block w.heap.size (by rw [(three_new w _ _ _).2.2.2.2]; omega)).trans (three_new w _ _ _).1
  have hA0 := (hb1.block (w.heap.size + 1) (by rw [(three_new w _ _ _).2.2.2.2]; omega)).trans (three_new w _ _ _).2.1
  have hK0 := (hb1.block (w.heap.size + 2) (by rw [(three_new w _ _ _).2.2.2.2]; omega)).trans (three_new w _ _ _).2.2.1
  have hw1 := (three_new w _ _ _).2.2.2.1.trans (hb1.mono (three_new w _ _ _).2.2.2.1.size)
  obtain ⟨r1, r2, r3, r4⟩ := rows_laid (A := A) (K := K) hA0 hK0
  have R1 := Lib.hid r1
  have R2 := Lib.hid r2
  have R3 := Lib.hid r3
  have R4 := Lib.hid r4
  have HA0 := Lib.hid hA0
  have HB0 := Lib.hid hB0
  have HW1 := Lib.hid hw1
  have HW := Lib.hid hW
  have HAS := Lib.hid hW.1
  have HKS := Lib.hid hW.2.1
  have HOA := Lib.hid hW.oneA
  have HOK := Lib.hid hW.oneK
  clear hb1 hsz hB0 hA0 hK0 hw1 r1 r2 r3 r4 hW
  obtain ⟨W2, hW2⟩ : ∃ W2, W2 = (w1.setRow (w.heap.size + 1) A).setRow (w.heap.size + 1 + 1) K := ⟨_, rfl⟩
  have HW2 := Lib.hid hW2
  have hB2 : Below w.heap.size w W2 := by rw [hW2]; exact below_setRow (below_setRow HW1.out (by omega) _) (by omega) _
  have HB2 := Lib.hid hB2
  have g4 : W2.heap[w.heap.size + 1]? = some (.cells A 65 (0, 0)) := by rw [hW2]; exact R2.out
  have g5 : W2.heap[w.heap.size + 1 + 1]? = some (.cells K 66 (0, 0)) := by rw [hW2]; exact R3.out
  have g3 : W2.heap[w.heap.size]? = some (.cells #[.string m.1, .float .f64 m.2] 31 (0, 0)) := by rw [hW2]; exact (R4.out _ (by omega) (by omega)).trans HB0.out
  have G4 := Lib.hid g4
  have G5 := Lib.hid g5
  have m0 : W2.cell? ⟨w.heap.size, 0, none⟩ = some (.string m.1) := by rw [Lib.cell_of_heap g3]; rfl
  have m1 : W2.cell? ⟨w.heap.size, 1, none⟩ = some (.float .f64 m.2) := by rw [Lib.cell_of_heap g3]; rfl
  obtain ⟨a, hla, ha1, _⟩ := HW.out.2.2 0 (Nat.le_refl _) (by omega)
  obtain rfl : a = P := lst_low (fun p hp => (HS.out.htb p (Nat.le_trans hp HP.out)).1) hla
  have a0 : W2.cell? ⟨w.heap.size + 1, 0, none⟩ = some (.pointer (some ⟨bl a, 0, none⟩)) := by rw [Lib.cell_of_heap g4]; exact ha1
  obtain ⟨to, sp, c1, _, hlv⟩ := (HS.out.lvl 0 (by omega) a HP.out (HS.out.htb a HP.out).1).vals
  have c1' : W2.cell? ⟨bl a, 3, none⟩ = some (.pointer to) := (hB2.cell (p := ⟨bl a, _, none⟩) (HS.out.lt HP.out)).trans c1
  have HLV := Lib.hid hlv
  clear hB2 g3 g4 g5 hla ha1 c1 hlv
  rcases HLV.out with ⟨c, b1, b2, b3, b4, e1, e2⟩ | ⟨b1, e1⟩
  · subst e1 e2
    obtain rfl : c = a + 1 := by
      rcases Nat.lt_or_ge (a + 1) c with k | k
      · have := b4 (a + 1) (by omega) k; have := (HS.out.htb (a + 1) (by omega)).1; omega
      · omega
    have hm := HS.out.mbr (a + 1) (by omega) b2
    have hm0 : W2.cell? ⟨bl (a + 1), 0, none⟩ = some (.string (mem (a + 1)).1) := (HB2.out.cell (p := ⟨bl (a + 1), _, none⟩) (HS.out.lt b2)).trans hm.1
    have hm1 : W2.cell? ⟨bl (a + 1), 1, none⟩ = some (.float .f64 (mem (a + 1)).2) := (HB2.out.cell (p := ⟨bl (a + 1), _, none⟩) (HS.out.lt b2)).trans hm.2
    have hlt : a < n := b2
    have HLT := Lib.hid hlt
    clear b1 b2 b3 b4 hm hlt HLV
    cases hfe : fEq (mem (a + 1)).2 m.2 with
    | false =>
      have HH : Hid (hitB n mem a m = false) := Lib.hid (by unfold hitB; rw [hfe]; simp)
      have hfe' : (FloatKind.f64.format.order (mem (a + 1)).2 m.2 == some Ordering.eq) = false := hfe
      clear hfe
      go_wp2_with (first | (refine wpList_store_row rfl 65 (.tmp 4) (.tmp 12) (by rfl) (w.heap.size + 1) A (by rfl) (by rfl) 65 _ HA0.out (by rw [HAS.out]; exact info_nodes) (by rw [HAS.out]; rfl) HOA.out ?_) | (refine wpList_store_row rfl 66 (.tmp 5) (.tmp 13) (by rfl) (w.heap.size + 1 + 1) K (by rfl) (by rfl) 66 _ R1.out (by rw [HKS.out]; exact info_ints) (by rw [HKS.out]; rfl) HOK.out ?_; rw [← hW2]; clear hW2))
      refine wp_region_q [1,1,0,0,0,0,0,0,0,1,0,1,0,0,0,0,0,0,0,1,0,1,0,0,1,1,0] (by kernel_rfl) (by kernel_rfl) ?_
      (refine q_load_row rfl 65 (.tmp 4) rfl (w.heap.size + 1) 65 A 32 _ rfl G4.out Tryd.underlying65 (by rw [HAS.out]; exact info_nodes) ?_)
      (refine q_load_row rfl 66 (.tmp 5) rfl (w.heap.size + 1 + 1) 66 K 32 _ rfl G5.out Tryd.underlying66 (by rw [HKS.out]; exact info_ints) ?_)
      (refine q_pure_n rfl (fun K hK => ?_); go_simp; refine hK _ _ ?_; clear hK K)
      (refine q_pure_n rfl (fun K hK => ?_); go_simp; refine hK _ _ ?_; clear hK K)
      (refine q_pure_n rfl (fun K hK => ?_); go_simp; refine hK _ _ ?_; clear hK K)
      first | (refine q_pure_x rfl ?hy (fun K hK => ?_); (case hy => rfl); go_simp; refine hK _ _ ?_; clear hK K) | (refine q_pure_u rfl ?hy (fun K hK => ?_); (case hy => rfl); go_simp; refine hK _ _ ?_; clear hK K) | (refine q_pure_y rfl ?hy (fun K hK => ?_); (case hy => rfl); go_simp; refine hK _ _ ?_; clear hK K)
      first | (refine q_pure_x rfl ?hy (fun K hK => ?_); (case hy => rfl); go_simp; refine hK _ _ ?_; clear hK K) | (refine q_pure_u rfl ?hy (fun K hK => ?_); (case hy => rfl); go_simp; refine hK _ _ ?_; clear hK K) | (refine q_pure_y rfl ?hy (fun K hK => ?_); (case hy => rfl); go_simp; refine hK _ _ ?_; clear hK K)
      first | (refine q_pure_x rfl ?hy (fun K hK => ?_); (case hy => rfl); go_simp; refine hK _ _ ?_; clear hK K) | (refine q_pure_u rfl ?hy (fun K hK => ?_); (case hy => rfl); go_simp; refine hK _ _ ?_; clear hK K) | (refine q_pure_y rfl ?hy (fun K hK => ?_); (case hy => rfl); go_simp; refine hK _ _ ?_; clear hK K)
      first | (refine q_pure_x rfl ?hy (fun K hK => ?_); (case hy => rfl); go_simp; refine hK _ _ ?_; clear hK K) | (refine q_pure_u rfl ?hy (fun K hK => ?_); (case hy => rfl); go_simp; refine hK _ _ ?_; clear hK K) | (refine q_pure_y rfl ?hy (fun K hK => ?_); (case hy => rfl); go_simp; refine hK _ _ ?_; clear hK K)
      first | (refine q_read_x rfl ?hy (fun K hK => ?_); (case hy => rfl); go_simp; refine hK _ _ ?_; clear hK K) | (refine q_read_u rfl ?hy (fun K hK => ?_); (case hy => rfl); go_simp; refine hK _ _ ?_; clear hK K) | (refine q_read_y rfl ?hy (fun K hK => ?_); (case hy => rfl); go_simp; refine hK _ _ ?_; clear hK K)
      first | (refine q_pure_x rfl ?hy (fun K hK => ?_); (case hy => rfl); go_simp; refine hK _ _ ?_; clear hK K) | (refine q_pure_u rfl ?hy (fun K hK => ?_); (case hy => rfl); go_simp; refine hK _ _ ?_; clear hK K) | (refine q_pure_y rfl ?hy (fun K hK => ?_); (case hy => rfl); go_simp; refine hK _ _ ?_; clear hK K)
      first | (refine q_read_x rfl ?hy (fun K hK => ?_); (case hy => rfl); go_simp; refine hK _ _ ?_; clear hK K) | (refine q_read_u rfl ?hy (fun K hK => ?_); (case hy => rfl); go_simp; refine hK _ _ ?_; clear hK K) | (refine q_read_y rfl ?hy (fun K hK => ?_); (case hy => rfl); go_simp; refine hK _ _ ?_; clear hK K)
      first | (refine q_pure_x rfl ?hy (fun K hK => ?_); (case hy => rfl); go_simp; refine hK _ _ ?_; clear hK K) | (refine q_pure_u rfl ?hy (fun K hK => ?_); (case hy => rfl); go_simp; refine hK _ _ ?_; clear hK K) | (refine q_pure_y rfl ?hy (fun K hK => ?_); (case hy => rfl); go_simp; refine hK _ _ ?_; clear hK K)
      (refine q_pure_n rfl (fun K hK => ?_); go_simp; refine hK _ _ ?_; clear hK K)
      (refine q_pure_n rfl (fun K hK => ?_); go_simp; refine hK _ _ ?_; clear hK K)
      first | (refine q_pure_x rfl ?hy (fun K hK => ?_); (case hy => rfl); go_simp; refine hK _ _ ?_; clear hK K) | (refine q_pure_u rfl ?hy (fun K hK => ?_); (case hy => rfl); go_simp; refine hK _ _ ?_; clear hK K) | (refine q_pure_y rfl ?hy (fun K hK => ?_); (case hy => rfl); go_simp; refine hK _ _ ?_; clear hK K)
      first | (refine q_pure_x rfl ?hy (fun K hK => ?_); (case hy => rfl); go_simp; refine hK _ _ ?_; clear hK K) | (refine q_pure_u rfl ?hy (fun K hK => ?_); (case hy => rfl); go_simp; refine hK _ _ ?_; clear hK K) | (refine q_pure_y rfl ?hy (fun K hK => ?_); (case hy => rfl); go_simp; refine hK _ _ ?_; clear hK K)
      first | (refine q_pure_x rfl ?hy (fun K hK => ?_); (case hy => rfl); go_simp; refine hK _ _ ?_; clear hK K) | (refine q_pure_u rfl ?hy (fun K hK => ?_); (case hy => rfl); go_simp; refine hK _ _ ?_; clear hK K) | (refine q_pure_y rfl ?hy (fun K hK => ?_); (case hy => rfl); go_simp; refine hK _ _ ?_; clear hK K)
      first | (refine q_pure_x rfl ?hy (fun K hK => ?_); (case hy => rfl); go_simp; refine hK _ _ ?_; clear hK K) | (refine q_pure_u rfl ?hy (fun K hK => ?_); (case hy => rfl); go_simp; refine hK _ _ ?_; clear hK K) | (refine q_pure_y rfl ?hy (fun K hK => ?_); (case hy => rfl); go_simp; refine hK _ _ ?_; clear hK K)
      first | (refine q_read_x rfl ?hy (fun K hK => ?_); (case hy => rfl); go_simp; refine hK _ _ ?_; clear hK K) | (refine q_read_u rfl ?hy (fun K hK => ?_); (case hy => rfl); go_simp; refine hK _ _ ?_; clear hK K) | (refine q_read_y rfl ?hy (fun K hK => ?_); (case hy => rfl); go_simp; refine hK _ _ ?_; clear hK K)
      first | (refine q_pure_x rfl ?hy (fun K hK => ?_); (case hy => rfl); go_simp; refine hK _ _ ?_; clear hK K) | (refine q_pure_u rfl ?hy (fun K hK => ?_); (case hy => rfl); go_simp; refine hK _ _ ?_; clear hK K) | (refine q_pure_y rfl ?hy (fun K hK => ?_); (case hy => rfl); go_simp; refine hK _ _ ?_; clear hK K)
      first | (refine q_read_x rfl ?hy (fun K hK => ?_); (case hy => rfl); go_simp; refine hK _ _ ?_; clear hK K) | (refine q_read_u rfl ?hy (fun K hK => ?_); (case hy => rfl); go_simp; refine hK _ _ ?_; clear hK K) | (refine q_read_y rfl ?hy (fun K hK => ?_); (case hy => rfl); go_simp; refine hK _ _ ?_; clear hK K)
      first | (refine q_pure_x rfl ?hy (fun K hK => ?_); (case hy => rfl); go_simp; refine hK _ _ ?_; clear hK K) | (refine q_pure_u rfl ?hy (fun K hK => ?_); (case hy => rfl); go_simp; refine hK _ _ ?_; clear hK K) | (refine q_pure_y rfl ?hy (fun K hK => ?_); (case hy => rfl); go_simp; refine hK _ _ ?_; clear hK K)
      (refine q_pure_n rfl (fun K hK => ?_); go_simp; refine hK _ _ ?_; clear hK K)
      (refine q_same_row rfl 65 (.tmp 4) (.tmp 21) rfl (w.heap.size + 1) 65 A rfl rfl G4.out (by rw [HAS.out]; exact info_nodes) HOA.out ?_)
      (refine q_same_row rfl 66 (.tmp 5) (.tmp 22) rfl (w.heap.size + 1 + 1) 66 K rfl rfl G5.out (by rw [HKS.out]; exact info_ints) HOK.out ?_)
      (refine q_pure_n rfl (fun K hK => ?_); go_simp; refine hK _ _ ?_; clear hK K)
      refine q_nil ?_
      intro nq
      go_wp2_with fail
      exact bodyPost_ret (results_rows3 (p := 4) (u := 5) (x := 6) (t4 := 65) (t5 := 66) rfl _ _ (w.heap.size + 1) (w.heap.size + 1 + 1) A K 32 32 _ _ rfl rfl G4.out G5.out Tryd.underlying65 Tryd.underlying66 (by rw [HAS.out]; exact info_nodes) (by rw [HKS.out]; exact info_ints)) rfl ⟨⟨A, K, by rw [HH.out]; rfl, HW.out⟩, below_drewN HB2.out _⟩
    | true =>
      have hfe' : (FloatKind.f64.format.order (mem (a + 1)).2 m.2 == some Ordering.eq) = true := hfe
      cases hte : ((mem (a + 1)).1.toList == m.1.toList) with
      | false =>
        have HH : Hid (hitB n mem a m = false) := Lib.hid (by unfold hitB; rw [hfe, hte]; simp)
        clear hfe
        go_wp2_with (first | (refine wpList_store_row rfl 65 (.tmp 4) (.tmp 12) (by rfl) (w.heap.size + 1) A (by rfl) (by rfl) 65 _ HA0.out (by rw [HAS.out]; exact info_nodes) (by rw [HAS.out]; rfl) HOA.out ?_) | (refine wpList_store_row rfl 66 (.tmp 5) (.tmp 13) (by rfl) (w.heap.size + 1 + 1) K (by rfl) (by rfl) 66 _ R1.out (by rw [HKS.out]; exact info_ints) (by rw [HKS.out]; rfl) HOK.out ?_; rw [← hW2]; clear hW2))
        refine wp_region_q [1,1,0,0,0,0,0,0,0,1,0,1,0,0,0,0,0,0,0,1,0,1,0,0,1,1,0] (by kernel_rfl) (by kernel_rfl) ?_
        (refine q_load_row rfl 65 (.tmp 4) rfl (w.heap.size + 1) 65 A 32 _ rfl G4.out Tryd.underlying65 (by rw [HAS.out]; exact info_nodes) ?_)
        (refine q_load_row rfl 66 (.tmp 5) rfl (w.heap.size + 1 + 1) 66 K 32 _ rfl G5.out Tryd.underlying66 (by rw [HKS.out]; exact info_ints) ?_)
        (refine q_pure_n rfl (fun K hK => ?_); go_simp; refine hK _ _ ?_; clear hK K)
        (refine q_pure_n rfl (fun K hK => ?_); go_simp; refine hK _ _ ?_; clear hK K)
        (refine q_pure_n rfl (fun K hK => ?_); go_simp; refine hK _ _ ?_; clear hK K)
        first | (refine q_pure_x rfl ?hy (fun K hK => ?_); (case hy => rfl); go_simp; refine hK _ _ ?_; clear hK K) | (refine q_pure_u rfl ?hy (fun K hK => ?_); (case hy => rfl); go_simp; refine hK _ _ ?_; clear hK K) | (refine q_pure_y rfl ?hy (fun K hK => ?_); (case hy => rfl); go_simp; refine hK _ _ ?_; clear hK K)
        first | (refine q_pure_x rfl ?hy (fun K hK => ?_); (case hy => rfl); go_simp; refine hK _ _ ?_; clear hK K) | (refine q_pure_u rfl ?hy (fun K hK => ?_); (case hy => rfl); go_simp; refine hK _ _ ?_; clear hK K) | (refine q_pure_y rfl ?hy (fun K hK => ?_); (case hy => rfl); go_simp; refine hK _ _ ?_; clear hK K)
        first | (refine q_pure_x rfl ?hy (fun K hK => ?_); (case hy => rfl); go_simp; refine hK _ _ ?_; clear hK K) | (refine q_pure_u rfl ?hy (fun K hK => ?_); (case hy => rfl); go_simp; refine hK _ _ ?_; clear hK K) | (refine q_pure_y rfl ?hy (fun K hK => ?_); (case hy => rfl); go_simp; refine hK _ _ ?_; clear hK K)
        first | (refine q_pure_x rfl ?hy (fun K hK => ?_); (case hy => rfl); go_simp; refine hK _ _ ?_; clear hK K) | (refine q_pure_u rfl ?hy (fun K hK => ?_); (case hy => rfl); go_simp; refine hK _ _ ?_; clear hK K) | (refine q_pure_y rfl ?hy (fun K hK => ?_); (case hy => rfl); go_simp; refine hK _ _ ?_; clear hK K)
        first | (refine q_read_x rfl ?hy (fun K hK => ?_); (case hy => rfl); go_simp; refine hK _ _ ?_; clear hK K) | (refine q_read_u rfl ?hy (fun K hK => ?_); (case hy => rfl); go_simp; refine hK _ _ ?_; clear hK K) | (refine q_read_y rfl ?hy (fun K hK => ?_); (case hy => rfl); go_simp; refine hK _ _ ?_; clear hK K)
        first | (refine q_pure_x rfl ?hy (fun K hK => ?_); (case hy => rfl); go_simp; refine hK _ _ ?_; clear hK K) | (refine q_pure_u rfl ?hy (fun K hK => ?_); (case hy => rfl); go_simp; refine hK _ _ ?_; clear hK K) | (refine q_pure_y rfl ?hy (fun K hK => ?_); (case hy => rfl); go_simp; refine hK _ _ ?_; clear hK K)
        first | (refine q_read_x rfl ?hy (fun K hK => ?_); (case hy => rfl); go_simp; refine hK _ _ ?_; clear hK K) | (refine q_read_u rfl ?hy (fun K hK => ?_); (case hy => rfl); go_simp; refine hK _ _ ?_; clear hK K) | (refine q_read_y rfl ?hy (fun K hK => ?_); (case hy => rfl); go_simp; refine hK _ _ ?_; clear hK K)
        first | (refine q_pure_x rfl ?hy (fun K hK => ?_); (case hy => rfl); go_simp; refine hK _ _ ?_; clear hK K) | (refine q_pure_u rfl ?hy (fun K hK => ?_); (case hy => rfl); go_simp; refine hK _ _ ?_; clear hK K) | (refine q_pure_y rfl ?hy (fun K hK => ?_); (case hy => rfl); go_simp; refine hK _ _ ?_; clear hK K)
        (refine q_pure_n rfl (fun K hK => ?_); go_simp; refine hK _ _ ?_; clear hK K)
        (refine q_pure_n rfl (fun K hK => ?_); go_simp; refine hK _ _ ?_; clear hK K)
        first | (refine q_pure_x rfl ?hy (fun K hK => ?_); (case hy => rfl); go_simp; refine hK _ _ ?_; clear hK K) | (refine q_pure_u rfl ?hy (fun K hK => ?_); (case hy => rfl); go_simp; refine hK _ _ ?_; clear hK K) | (refine q_pure_y rfl ?hy (fun K hK => ?_); (case hy => rfl); go_simp; refine hK _ _ ?_; clear hK K)
        first | (refine q_pure_x rfl ?hy (fun K hK => ?_); (case hy => rfl); go_simp; refine hK _ _ ?_; clear hK K) | (refine q_pure_u rfl ?hy (fun K hK => ?_); (case hy => rfl); go_simp; refine hK _ _ ?_; clear hK K) | (refine q_pure_y rfl ?hy (fun K hK => ?_); (case hy => rfl); go_simp; refine hK _ _ ?_; clear hK K)
        first | (refine q_pure_x rfl ?hy (fun K hK => ?_); (case hy => rfl); go_simp; refine hK _ _ ?_; clear hK K) | (refine q_pure_u rfl ?hy (fun K hK => ?_); (case hy => rfl); go_simp; refine hK _ _ ?_; clear hK K) | (refine q_pure_y rfl ?hy (fun K hK => ?_); (case hy => rfl); go_simp; refine hK _ _ ?_; clear hK K)
        first | (refine q_pure_x rfl ?hy (fun K hK => ?_); (case hy => rfl); go_simp; refine hK _ _ ?_; clear hK K) | (refine q_pure_u rfl ?hy (fun K hK => ?_); (case hy => rfl); go_simp; refine hK _ _ ?_; clear hK K) | (refine q_pure_y rfl ?hy (fun K hK => ?_); (case hy => rfl); go_simp; refine hK _ _ ?_; clear hK K)
        first | (refine q_read_x rfl ?hy (fun K hK => ?_); (case hy => rfl); go_simp; refine hK _ _ ?_; clear hK K) | (refine q_read_u rfl ?hy (fun K hK => ?_); (case hy => rfl); go_simp; refine hK _ _ ?_; clear hK K) | (refine q_read_y rfl ?hy (fun K hK => ?_); (case hy => rfl); go_simp; refine hK _ _ ?_; clear hK K)
        first | (refine q_pure_x rfl ?hy (fun K hK => ?_); (case hy => rfl); go_simp; refine hK _ _ ?_; clear hK K) | (refine q_pure_u rfl ?hy (fun K hK => ?_); (case hy => rfl); go_simp; refine hK _ _ ?_; clear hK K) | (refine q_pure_y rfl ?hy (fun K hK => ?_); (case hy => rfl); go_simp; refine hK _ _ ?_; clear hK K)
        first | (refine q_read_x rfl ?hy (fun K hK => ?_); (case hy => rfl); go_simp; refine hK _ _ ?_; clear hK K) | (refine q_read_u rfl ?hy (fun K hK => ?_); (case hy => rfl); go_simp; refine hK _ _ ?_; clear hK K) | (refine q_read_y rfl ?hy (fun K hK => ?_); (case hy => rfl); go_simp; refine hK _ _ ?_; clear hK K)
        first | (refine q_pure_x rfl ?hy (fun K hK => ?_); (case hy => rfl); go_simp; refine hK _ _ ?_; clear hK K) | (refine q_pure_u rfl ?hy (fun K hK => ?_); (case hy => rfl); go_simp; refine hK _ _ ?_; clear hK K) | (refine q_pure_y rfl ?hy (fun K hK => ?_); (case hy => rfl); go_simp; refine hK _ _ ?_; clear hK K)
        (refine q_pure_n rfl (fun K hK => ?_); go_simp; refine hK _ _ ?_; clear hK K)
        (refine q_same_row rfl 65 (.tmp 4) (.tmp 21) rfl (w.heap.size + 1) 65 A rfl rfl G4.out (by rw [HAS.out]; exact info_nodes) HOA.out ?_)
        (refine q_same_row rfl 66 (.tmp 5) (.tmp 22) rfl (w.heap.size + 1 + 1) 66 K rfl rfl G5.out (by rw [HKS.out]; exact info_ints) HOK.out ?_)
        (refine q_pure_n rfl (fun K hK => ?_); go_simp; refine hK _ _ ?_; clear hK K)
        refine q_nil ?_
        intro nq
        go_wp2_with fail
        exact bodyPost_ret (results_rows3 (p := 4) (u := 5) (x := 6) (t4 := 65) (t5 := 66) rfl _ _ (w.heap.size + 1) (w.heap.size + 1 + 1) A K 32 32 _ _ rfl rfl G4.out G5.out Tryd.underlying65 Tryd.underlying66 (by rw [HAS.out]; exact info_nodes) (by rw [HKS.out]; exact info_ints)) rfl ⟨⟨A, K, by rw [HH.out]; rfl, HW.out⟩, below_drewN HB2.out _⟩
      | true =>
        have HH : Hid (hitB n mem a m = true) := Lib.hid (by unfold hitB; rw [hfe, hte]; simp [HLT.out])
        clear hfe
        go_wp2_with (first | (refine wpList_store_row rfl 65 (.tmp 4) (.tmp 12) (by rfl) (w.heap.size + 1) A (by rfl) (by rfl) 65 _ HA0.out (by rw [HAS.out]; exact info_nodes) (by rw [HAS.out]; rfl) HOA.out ?_) | (refine wpList_store_row rfl 66 (.tmp 5) (.tmp 13) (by rfl) (w.heap.size + 1 + 1) K (by rfl) (by rfl) 66 _ R1.out (by rw [HKS.out]; exact info_ints) (by rw [HKS.out]; rfl) HOK.out ?_; rw [← hW2]; clear hW2))
        refine wp_region_q [1,1,0,0,0,0,0,0,0,1,0,1,0,0,0,0,0,0,0,1,0,1,0,0,1,1,0] (by kernel_rfl) (by kernel_rfl) ?_
        (refine q_load_row rfl 65 (.tmp 4) rfl (w.heap.size + 1) 65 A 32 _ rfl G4.out Tryd.underlying65 (by rw [HAS.out]; exact info_nodes) ?_)
        (refine q_load_row rfl 66 (.tmp 5) rfl (w.heap.size + 1 + 1) 66 K 32 _ rfl G5.out Tryd.underlying66 (by rw [HKS.out]; exact info_ints) ?_)
        (refine q_pure_n rfl (fun K hK => ?_); go_simp; refine hK _ _ ?_; clear hK K)
        (refine q_pure_n rfl (fun K hK => ?_); go_simp; refine hK _ _ ?_; clear hK K)
        (refine q_pure_n rfl (fun K hK => ?_); go_simp; refine hK _ _ ?_; clear hK K)
        first | (refine q_pure_x rfl ?hy (fun K hK => ?_); (case hy => rfl); go_simp; refine hK _ _ ?_; clear hK K) | (refine q_pure_u rfl ?hy (fun K hK => ?_); (case hy => rfl); go_simp; refine hK _ _ ?_; clear hK K) | (refine q_pure_y rfl ?hy (fun K hK => ?_); (case hy => rfl); go_simp; refine hK _ _ ?_; clear hK K)
        first | (refine q_pure_x rfl ?hy (fun K hK => ?_); (case hy => rfl); go_simp; refine hK _ _ ?_; clear hK K) | (refine q_pure_u rfl ?hy (fun K hK => ?_); (case hy => rfl); go_simp; refine hK _ _ ?_; clear hK K) | (refine q_pure_y rfl ?hy (fun K hK => ?_); (case hy => rfl); go_simp; refine hK _ _ ?_; clear hK K)
        first | (refine q_pure_x rfl ?hy (fun K hK => ?_); (case hy => rfl); go_simp; refine hK _ _ ?_; clear hK K) | (refine q_pure_u rfl ?hy (fun K hK => ?_); (case hy => rfl); go_simp; refine hK _ _ ?_; clear hK K) | (refine q_pure_y rfl ?hy (fun K hK => ?_); (case hy => rfl); go_simp; refine hK _ _ ?_; clear hK K)
        first | (refine q_pure_x rfl ?hy (fun K hK => ?_); (case hy => rfl); go_simp; refine hK _ _ ?_; clear hK K) | (refine q_pure_u rfl ?hy (fun K hK => ?_); (case hy => rfl); go_simp; refine hK _ _ ?_; clear hK K) | (refine q_pure_y rfl ?hy (fun K hK => ?_); (case hy => rfl); go_simp; refine hK _ _ ?_; clear hK K)
        first | (refine q_read_x rfl ?hy (fun K hK => ?_); (case hy => rfl); go_simp; refine hK _ _ ?_; clear hK K) | (refine q_read_u rfl ?hy (fun K hK => ?_); (case hy => rfl); go_simp; refine hK _ _ ?_; clear hK K) | (refine q_read_y rfl ?hy (fun K hK => ?_); (case hy => rfl); go_simp; refine hK _ _ ?_; clear hK K)
        first | (refine q_pure_x rfl ?hy (fun K hK => ?_); (case hy => rfl); go_simp; refine hK _ _ ?_; clear hK K) | (refine q_pure_u rfl ?hy (fun K hK => ?_); (case hy => rfl); go_simp; refine hK _ _ ?_; clear hK K) | (refine q_pure_y rfl ?hy (fun K hK => ?_); (case hy => rfl); go_simp; refine hK _ _ ?_; clear hK K)
        first | (refine q_read_x rfl ?hy (fun K hK => ?_); (case hy => rfl); go_simp; refine hK _ _ ?_; clear hK K) | (refine q_read_u rfl ?hy (fun K hK => ?_); (case hy => rfl); go_simp; refine hK _ _ ?_; clear hK K) | (refine q_read_y rfl ?hy (fun K hK => ?_); (case hy => rfl); go_simp; refine hK _ _ ?_; clear hK K)
        first | (refine q_pure_x rfl ?hy (fun K hK => ?_); (case hy => rfl); go_simp; refine hK _ _ ?_; clear hK K) | (refine q_pure_u rfl ?hy (fun K hK => ?_); (case hy => rfl); go_simp; refine hK _ _ ?_; clear hK K) | (refine q_pure_y rfl ?hy (fun K hK => ?_); (case hy => rfl); go_simp; refine hK _ _ ?_; clear hK K)
        (refine q_pure_n rfl (fun K hK => ?_); go_simp; refine hK _ _ ?_; clear hK K)
        (refine q_pure_n rfl (fun K hK => ?_); go_simp; refine hK _ _ ?_; clear hK K)
        first | (refine q_pure_x rfl ?hy (fun K hK => ?_); (case hy => rfl); go_simp; refine hK _ _ ?_; clear hK K) | (refine q_pure_u rfl ?hy (fun K hK => ?_); (case hy => rfl); go_simp; refine hK _ _ ?_; clear hK K) | (refine q_pure_y rfl ?hy (fun K hK => ?_); (case hy => rfl); go_simp; refine hK _ _ ?_; clear hK K)
        first | (refine q_pure_x rfl ?hy (fun K hK => ?_); (case hy => rfl); go_simp; refine hK _ _ ?_; clear hK K) | (refine q_pure_u rfl ?hy (fun K hK => ?_); (case hy => rfl); go_simp; refine hK _ _ ?_; clear hK K) | (refine q_pure_y rfl ?hy (fun K hK => ?_); (case hy => rfl); go_simp; refine hK _ _ ?_; clear hK K)
        first | (refine q_pure_x rfl ?hy (fun K hK => ?_); (case hy => rfl); go_simp; refine hK _ _ ?_; clear hK K) | (refine q_pure_u rfl ?hy (fun K hK => ?_); (case hy => rfl); go_simp; refine hK _ _ ?_; clear hK K) | (refine q_pure_y rfl ?hy (fun K hK => ?_); (case hy => rfl); go_simp; refine hK _ _ ?_; clear hK K)
        first | (refine q_pure_x rfl ?hy (fun K hK => ?_); (case hy => rfl); go_simp; refine hK _ _ ?_; clear hK K) | (refine q_pure_u rfl ?hy (fun K hK => ?_); (case hy => rfl); go_simp; refine hK _ _ ?_; clear hK K) | (refine q_pure_y rfl ?hy (fun K hK => ?_); (case hy => rfl); go_simp; refine hK _ _ ?_; clear hK K)
        first | (refine q_read_x rfl ?hy (fun K hK => ?_); (case hy => rfl); go_simp; refine hK _ _ ?_; clear hK K) | (refine q_read_u rfl ?hy (fun K hK => ?_); (case hy => rfl); go_simp; refine hK _ _ ?_; clear hK K) | (refine q_read_y rfl ?hy (fun K hK => ?_); (case hy => rfl); go_simp; refine hK _ _ ?_; clear hK K)
        first | (refine q_pure_x rfl ?hy (fun K hK => ?_); (case hy => rfl); go_simp; refine hK _ _ ?_; clear hK K) | (refine q_pure_u rfl ?hy (fun K hK => ?_); (case hy => rfl); go_simp; refine hK _ _ ?_; clear hK K) | (refine q_pure_y rfl ?hy (fun K hK => ?_); (case hy => rfl); go_simp; refine hK _ _ ?_; clear hK K)
        first | (refine q_read_x rfl ?hy (fun K hK => ?_); (case hy => rfl); go_simp; refine hK _ _ ?_; clear hK K) | (refine q_read_u rfl ?hy (fun K hK => ?_); (case hy => rfl); go_simp; refine hK _ _ ?_; clear hK K) | (refine q_read_y rfl ?hy (fun K hK => ?_); (case hy => rfl); go_simp; refine hK _ _ ?_; clear hK K)
        first | (refine q_pure_x rfl ?hy (fun K hK => ?_); (case hy => rfl); go_simp; refine hK _ _ ?_; clear hK K) | (refine q_pure_u rfl ?hy (fun K hK => ?_); (case hy => rfl); go_simp; refine hK _ _ ?_; clear hK K) | (refine q_pure_y rfl ?hy (fun K hK => ?_); (case hy => rfl); go_simp; refine hK _ _ ?_; clear hK K)
        (refine q_pure_n rfl (fun K hK => ?_); go_simp; refine hK _ _ ?_; clear hK K)
        (refine q_same_row rfl 65 (.tmp 4) (.tmp 21) rfl (w.heap.size + 1) 65 A rfl rfl G4.out (by rw [HAS.out]; exact info_nodes) HOA.out ?_)
        (refine q_same_row rfl 66 (.tmp 5) (.tmp 22) rfl (w.heap.size + 1 + 1) 66 K rfl rfl G5.out (by rw [HKS.out]; exact info_ints) HOK.out ?_)
        (refine q_pure_n rfl (fun K hK => ?_); go_simp; refine hK _ _ ?_; clear hK K)
        refine q_nil ?_
        intro nq
        go_wp2_with fail
        exact bodyPost_ret (results_rows3 (p := 4) (u := 5) (x := 6) (t4 := 65) (t5 := 66) rfl _ _ (w.heap.size + 1) (w.heap.size + 1 + 1) A K 32 32 _ _ rfl rfl G4.out G5.out Tryd.underlying65 Tryd.underlying66 (by rw [HAS.out]; exact info_nodes) (by rw [HKS.out]; exact info_ints)) rfl ⟨⟨A, K, by rw [HH.out]; rfl, HW.out⟩, below_drewN HB2.out _⟩
  · subst e1
    have HH : Hid (hitB n mem a m = false) := Lib.hid (by
      unfold hitB
      rcases Nat.lt_or_ge a n with k | k
      · have := b1 (a + 1) (by omega) k; have := (HS.out.htb (a + 1) k).1; omega
      · rw [show decide (a < n) = false by simpa using k]; rfl)
    clear b1 HLV
    go_wp2_with (first | (refine wpList_store_row rfl 65 (.tmp 4) (.tmp 12) (by rfl) (w.heap.size + 1) A (by rfl) (by rfl) 65 _ HA0.out (by rw [HAS.out]; exact info_nodes) (by rw [HAS.out]; rfl) HOA.out ?_) | (refine wpList_store_row rfl 66 (.tmp 5) (.tmp 13) (by rfl) (w.heap.size + 1 + 1) K (by rfl) (by rfl) 66 _ R1.out (by rw [HKS.out]; exact info_ints) (by rw [HKS.out]; rfl) HOK.out ?_; rw [← hW2]; clear hW2))
    refine wp_region_q [1,1,0,0,0,0,0,0,0,1,0,1,0,0,0,0,0,0,0,1,0,1,0,0,1,1,0] (by kernel_rfl) (by kernel_rfl) ?_
    (refine q_load_row rfl 65 (.tmp 4) rfl (w.heap.size + 1) 65 A 32 _ rfl G4.out Tryd.underlying65 (by rw [HAS.out]; exact info_nodes) ?_)
    (refine q_load_row rfl 66 (.tmp 5) rfl (w.heap.size + 1 + 1) 66 K 32 _ rfl G5.out Tryd.underlying66 (by rw [HKS.out]; exact info_ints) ?_)
    (refine q_pure_n rfl (fun K hK => ?_); go_simp; refine hK _ _ ?_; clear hK K)
    (refine q_pure_n rfl (fun K hK => ?_); go_simp; refine hK _ _ ?_; clear hK K)
    (refine q_pure_n rfl (fun K hK => ?_); go_simp; refine hK _ _ ?_; clear hK K)
    first | (refine q_pure_x rfl ?hy (fun K hK => ?_); (case hy => rfl); go_simp; refine hK _ _ ?_; clear hK K) | (refine q_pure_u rfl ?hy (fun K hK => ?_); (case hy => rfl); go_simp; refine hK _ _ ?_; clear hK K) | (refine q_pure_y rfl ?hy (fun K hK => ?_); (case hy => rfl); go_simp; refine hK _ _ ?_; clear hK K)
    first | (refine q_pure_x rfl ?hy (fun K hK => ?_); (case hy => rfl); go_simp; refine hK _ _ ?_; clear hK K) | (refine q_pure_u rfl ?hy (fun K hK => ?_); (case hy => rfl); go_simp; refine hK _ _ ?_; clear hK K) | (refine q_pure_y rfl ?hy (fun K hK => ?_); (case hy => rfl); go_simp; refine hK _ _ ?_; clear hK K)
    first | (refine q_pure_x rfl ?hy (fun K hK => ?_); (case hy => rfl); go_simp; refine hK _ _ ?_; clear hK K) | (refine q_pure_u rfl ?hy (fun K hK => ?_); (case hy => rfl); go_simp; refine hK _ _ ?_; clear hK K) | (refine q_pure_y rfl ?hy (fun K hK => ?_); (case hy => rfl); go_simp; refine hK _ _ ?_; clear hK K)
    first | (refine q_pure_x rfl ?hy (fun K hK => ?_); (case hy => rfl); go_simp; refine hK _ _ ?_; clear hK K) | (refine q_pure_u rfl ?hy (fun K hK => ?_); (case hy => rfl); go_simp; refine hK _ _ ?_; clear hK K) | (refine q_pure_y rfl ?hy (fun K hK => ?_); (case hy => rfl); go_simp; refine hK _ _ ?_; clear hK K)
    first | (refine q_read_x rfl ?hy (fun K hK => ?_); (case hy => rfl); go_simp; refine hK _ _ ?_; clear hK K) | (refine q_read_u rfl ?hy (fun K hK => ?_); (case hy => rfl); go_simp; refine hK _ _ ?_; clear hK K) | (refine q_read_y rfl ?hy (fun K hK => ?_); (case hy => rfl); go_simp; refine hK _ _ ?_; clear hK K)
    first | (refine q_pure_x rfl ?hy (fun K hK => ?_); (case hy => rfl); go_simp; refine hK _ _ ?_; clear hK K) | (refine q_pure_u rfl ?hy (fun K hK => ?_); (case hy => rfl); go_simp; refine hK _ _ ?_; clear hK K) | (refine q_pure_y rfl ?hy (fun K hK => ?_); (case hy => rfl); go_simp; refine hK _ _ ?_; clear hK K)
    first | (refine q_read_x rfl ?hy (fun K hK => ?_); (case hy => rfl); go_simp; refine hK _ _ ?_; clear hK K) | (refine q_read_u rfl ?hy (fun K hK => ?_); (case hy => rfl); go_simp; refine hK _ _ ?_; clear hK K) | (refine q_read_y rfl ?hy (fun K hK => ?_); (case hy => rfl); go_simp; refine hK _ _ ?_; clear hK K)
    first | (refine q_pure_x rfl ?hy (fun K hK => ?_); (case hy => rfl); go_simp; refine hK _ _ ?_; clear hK K) | (refine q_pure_u rfl ?hy (fun K hK => ?_); (case hy => rfl); go_simp; refine hK _ _ ?_; clear hK K) | (refine q_pure_y rfl ?hy (fun K hK => ?_); (case hy => rfl); go_simp; refine hK _ _ ?_; clear hK K)
    (refine q_pure_n rfl (fun K hK => ?_); go_simp; refine hK _ _ ?_; clear hK K)
    (refine q_pure_n rfl (fun K hK => ?_); go_simp; refine hK _ _ ?_; clear hK K)
    first | (refine q_pure_x rfl ?hy (fun K hK => ?_); (case hy => rfl); go_simp; refine hK _ _ ?_; clear hK K) | (refine q_pure_u rfl ?hy (fun K hK => ?_); (case hy => rfl); go_simp; refine hK _ _ ?_; clear hK K) | (refine q_pure_y rfl ?hy (fun K hK => ?_); (case hy => rfl); go_simp; refine hK _ _ ?_; clear hK K)
    first | (refine q_pure_x rfl ?hy (fun K hK => ?_); (case hy => rfl); go_simp; refine hK _ _ ?_; clear hK K) | (refine q_pure_u rfl ?hy (fun K hK => ?_); (case hy => rfl); go_simp; refine hK _ _ ?_; clear hK K) | (refine q_pure_y rfl ?hy (fun K hK => ?_); (case hy => rfl); go_simp; refine hK _ _ ?_; clear hK K)
    first | (refine q_pure_x rfl ?hy (fun K hK => ?_); (case hy => rfl); go_simp; refine hK _ _ ?_; clear hK K) | (refine q_pure_u rfl ?hy (fun K hK => ?_); (case hy => rfl); go_simp; refine hK _ _ ?_; clear hK K) | (refine q_pure_y rfl ?hy (fun K hK => ?_); (case hy => rfl); go_simp; refine hK _ _ ?_; clear hK K)
    first | (refine q_pure_x rfl ?hy (fun K hK => ?_); (case hy => rfl); go_simp; refine hK _ _ ?_; clear hK K) | (refine q_pure_u rfl ?hy (fun K hK => ?_); (case hy => rfl); go_simp; refine hK _ _ ?_; clear hK K) | (refine q_pure_y rfl ?hy (fun K hK => ?_); (case hy => rfl); go_simp; refine hK _ _ ?_; clear hK K)
    first | (refine q_read_x rfl ?hy (fun K hK => ?_); (case hy => rfl); go_simp; refine hK _ _ ?_; clear hK K) | (refine q_read_u rfl ?hy (fun K hK => ?_); (case hy => rfl); go_simp; refine hK _ _ ?_; clear hK K) | (refine q_read_y rfl ?hy (fun K hK => ?_); (case hy => rfl); go_simp; refine hK _ _ ?_; clear hK K)
    first | (refine q_pure_x rfl ?hy (fun K hK => ?_); (case hy => rfl); go_simp; refine hK _ _ ?_; clear hK K) | (refine q_pure_u rfl ?hy (fun K hK => ?_); (case hy => rfl); go_simp; refine hK _ _ ?_; clear hK K) | (refine q_pure_y rfl ?hy (fun K hK => ?_); (case hy => rfl); go_simp; refine hK _ _ ?_; clear hK K)
    first | (refine q_read_x rfl ?hy (fun K hK => ?_); (case hy => rfl); go_simp; refine hK _ _ ?_; clear hK K) | (refine q_read_u rfl ?hy (fun K hK => ?_); (case hy => rfl); go_simp; refine hK _ _ ?_; clear hK K) | (refine q_read_y rfl ?hy (fun K hK => ?_); (case hy => rfl); go_simp; refine hK _ _ ?_; clear hK K)
    first | (refine q_pure_x rfl ?hy (fun K hK => ?_); (case hy => rfl); go_simp; refine hK _ _ ?_; clear hK K) | (refine q_pure_u rfl ?hy (fun K hK => ?_); (case hy => rfl); go_simp; refine hK _ _ ?_; clear hK K) | (refine q_pure_y rfl ?hy (fun K hK => ?_); (case hy => rfl); go_simp; refine hK _ _ ?_; clear hK K)
    (refine q_pure_n rfl (fun K hK => ?_); go_simp; refine hK _ _ ?_; clear hK K)
    (refine q_same_row rfl 65 (.tmp 4) (.tmp 21) rfl (w.heap.size + 1) 65 A rfl rfl G4.out (by rw [HAS.out]; exact info_nodes) HOA.out ?_)
    (refine q_same_row rfl 66 (.tmp 5) (.tmp 22) rfl (w.heap.size + 1 + 1) 66 K rfl rfl G5.out (by rw [HKS.out]; exact info_ints) HOK.out ?_)
    (refine q_pure_n rfl (fun K hK => ?_); go_simp; refine hK _ _ ?_; clear hK K)
    refine q_nil ?_
    intro nq
    go_wp2_with fail
    exact bodyPost_ret (results_rows3 (p := 4) (u := 5) (x := 6) (t4 := 65) (t5 := 66) rfl _ _ (w.heap.size + 1) (w.heap.size + 1 + 1) A K 32 32 _ _ rfl rfl G4.out G5.out Tryd.underlying65 Tryd.underlying66 (by rw [HAS.out]; exact info_nodes) (by rw [HKS.out]; exact info_ints)) rfl ⟨⟨A, K, by rw [HH.out]; rfl, HW.out⟩, below_drewN HB2.out _⟩
end Go.Proofs.YtmlaackdcnpjmaaDoor.Skp
