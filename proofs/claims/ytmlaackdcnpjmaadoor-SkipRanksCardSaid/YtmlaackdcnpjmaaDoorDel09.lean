/- Chapter 09: Delete. -/
import Derived.Test.YtmlaackdcnpjmaaDoorDelR09
import Derived.LaidEqlPtr
namespace Go.Proofs.YtmlaackdcnpjmaaDoor.Skp
open Go Go.RowKit Go.Proofs.YtmlaackdcnpjmaaDoor.Pin Go.Proofs.YtmlaackdcnpjmaaDoor.Flt
theorem info_node : (Tryd.prog.info? 64).map (·.size) = some 67 := by kernel_rfl
theorem ptr_same (a : Addr) (W : World) : (binOp .eql 56 (.pointer (some a)) (.pointer (some a))).run Tryd.prog W = .ok (.bool true) W := by
  obtain ⟨j, hj, _⟩ := Option.map_eq_some_iff.1 info_node
  exact run_eql_ptr_same W a Tryd.underlying56 hj
theorem ptr_nil (a : Addr) (W : World) : (binOp .eql 56 (.pointer none) (.pointer (some a))).run Tryd.prog W = .ok (.bool false) W := by
  have h : ∀ d : Nat, (Op.equalIn (d + 1) 56 (.pointer none) (.pointer (some a))).run Tryd.prog W = .ok false W := fun d => by
    simp [Op.equalIn, run_underlying Tryd.underlying56]
  simp only [binOp]
  simp [Op.equal, Op.maxDepth, h 9999]
theorem ptr_other {W : World} {b c : Nat} (h : b ≠ c) (hb : NodeAt W b) (hc : NodeAt W c) : (binOp .eql 56 (.pointer (some ⟨b, 0, none⟩)) (.pointer (some ⟨c, 0, none⟩))).run Tryd.prog W = .ok (.bool false) W := by
  obtain ⟨j, hj, hs⟩ := Option.map_eq_some_iff.1 info_node
  obtain ⟨cs, h1, _⟩ := hb
  obtain ⟨ds, h2, _⟩ := hc
  exact run_eql_ptr_other W Tryd.underlying56 hj (by rw [hs]; omega) (fun e => h (by injection e)) h1 h2
set_option maxHeartbeats 4000000 in
set_option maxRecDepth 100000 in
theorem del_no {own : Nat → Prop} {s seed n : Nat} {bl ht : Nat → Nat} {mem : Nat → Sc} (m : Sc) (P : Nat) (w : World) (hS : Sk w own s seed n bl ht mem) (hP : P ≤ n) (hq : ∀ p, 0 < p → p ≤ n → (lessB (mem p) m = true ↔ p ≤ P)) (hit : hitB n mem P m = false) :
    Calls Tryd.prog 19 #[.pointer (some ⟨s, 0, none⟩), scV m] w fun e w' => e = .returned (.bool false) ∧ Below w.heap.size w w' := by
  have HB0 := Lib.hid ((Below.refl w.heap.size w).alloc (Nat.le_refl _) (.cells #[.string m.1, .float .f64 m.2] 31))
  have HFN := Lib.hid (find_any m P _ (hS.below ((Below.refl w.heap.size w).alloc (Nat.le_refl _) (.cells #[.string m.1, .float .f64 m.2] 31))) hP hq)
  rw [hit] at HFN
  have HG := Lib.hid (fun W (hW : Below w.heap.size w W) => gone_no s (bl 0) W (hS.below hW).head)
  clear hS hP hq hit
  go_enter Tryd.func19, Tryd.ntmps19
  go_wp2_with fail
  refine (HG.out _ HB0.out).mono ?_
  rintro e w' ⟨rfl, rfl⟩
  go_wp2_with fail
  refine HFN.out.mono ?_
  rintro e w1 ⟨⟨A, K, rfl, hW⟩, hb1⟩
  have HB1 := Lib.hid (HB0.out.trans (hb1.mono HB0.out.size))
  have HAS := Lib.hid hW.1
  have HKS := Lib.hid hW.2.1
  have HOA := Lib.hid hW.oneA
  have HOK := Lib.hid hW.oneK
  clear hb1 hW
  go_wp2_with (first | (refine wpList_store_into rfl 65 (.tmp 5) (.tmp 17) (by rfl) w1.heap.size A (by rfl) (by rfl) 65 _ (two_new w1 _ _).1 (by rw [HAS.out]; exact info_nodes) (by rw [HAS.out]; rfl) HOA.out ?_; intro W1 hI1) | (refine wpList_store_into rfl 66 (.tmp 6) (.tmp 18) (by rfl) (w1.heap.size + 1) K (by rfl) (by rfl) 66 _ ((hI1.other _ (by omega)).trans (two_new w1 _ _).2) (by rw [HKS.out]; exact info_ints) (by rw [HKS.out]; rfl) HOK.out ?_; intro W2 hI2; have HB2 := Lib.hid (hI2.below (hI1.below (below_two HB1.out HB1.out.size _ _) HB1.out.size) (by have := HB1.out.size; omega)); clear hI1 hI2))
  go_ret
  exact ⟨rfl, HB2.out⟩
/-- a node taken out -/
def DelNew (w w' : World) (own : Nat → Prop) (s seed n : Nat) (bl ht : Nat → Nat) (mem : Nat → Sc) (P : Nat) : Prop := Sk w' own s seed n (del P bl) (del P ht) (del P mem) ∧ Frm own w w'
set_option maxHeartbeats 4000000 in
set_option maxRecDepth 100000 in
theorem del_yes {own : Nat → Prop} {s seed n : Nat} {bl ht : Nat → Nat} {mem : Nat → Sc} (m : Sc) (P : Nat) (w : World) (hS : Sk w own s seed (n + 1) bl ht mem) (hP : P ≤ n) (hq : ∀ p, 0 < p → p ≤ n + 1 → (lessB (mem p) m = true ↔ p ≤ P)) (hit : hitB (n + 1) mem P m = true) :
    Calls Tryd.prog 19 #[.pointer (some ⟨s, 0, none⟩), scV m] w fun e w' => e = .returned (.bool true) ∧ DelNew w w' own s seed n bl ht mem P := by
  have HS := Lib.hid hS
  have HP := Lib.hid hP
  have HB0 := Lib.hid ((Below.refl w.heap.size w).alloc (Nat.le_refl _) (.cells #[.string m.1, .float .f64 m.2] 31))
  have HFN := Lib.hid (find_any m P _ (hS.below ((Below.refl w.heap.size w).alloc (Nat.le_refl _) (.cells #[.string m.1, .float .f64 m.2] 31))) (by omega) hq)
  rw [hit] at HFN
  have HG := Lib.hid (fun W (hW : Below w.heap.size w W) => gone_no s (bl 0) W (hS.below hW).head)
  clear hS hP hq hit
  go_enter Tryd.func19, Tryd.ntmps19
  go_wp2_with fail
  refine (HG.out _ HB0.out).mono ?_
  rintro e w' ⟨rfl, rfl⟩
  go_wp2_with fail
  refine HFN.out.mono ?_
  rintro e w1 ⟨⟨A, K, rfl, hW⟩, hb1⟩
  have HB1 := Lib.hid (HB0.out.trans (hb1.mono HB0.out.size))
  have HW := Lib.hid hW
  have HAS := Lib.hid hW.1
  have HKS := Lib.hid hW.2.1
  have HOA := Lib.hid hW.oneA
  have HOK := Lib.hid hW.oneK
  obtain ⟨a, hla, ha0, _⟩ := HW.out.2.2 0 (Nat.le_refl _) (by omega)
  obtain rfl : a = P := lst_low (fun p hp => (HS.out.htb p (by have := HP.out; omega)).1) hla
  have HA0 := Lib.hid ha0
  have HNX : Hid (∀ W, Below w.heap.size w W → W.cell? ⟨bl a, 3, none⟩ = some (.pointer (some ⟨bl (a + 1), 0, none⟩))) := Lib.hid (fun W hW => by
    obtain ⟨to, sp, c1, _, hlv⟩ := (HS.out.lvl 0 (by omega) a (by have := HP.out; omega) (HS.out.htb a (by have := HP.out; omega)).1).vals
    have hto := nx_of HS.out hlv
    unfold nx at hto
    rw [if_pos (by have := HP.out; omega)] at hto
    rw [← hto]
    exact (hW.cell (p := ⟨bl a, _, none⟩) (HS.out.lt (by have := HP.out; omega))).trans c1)
  clear hb1 hW hla ha0
  go_wp2_with (first | (refine wpList_store_into rfl 65 (.tmp 5) (.tmp 17) (by rfl) w1.heap.size A (by rfl) (by rfl) 65 _ (two_new w1 _ _).1 (by rw [HAS.out]; exact info_nodes) (by rw [HAS.out]; rfl) HOA.out ?_; intro W1 hI1) | (refine wpList_store_into rfl 66 (.tmp 6) (.tmp 18) (by rfl) (w1.heap.size + 1) K (by rfl) (by rfl) 66 _ ((hI1.other _ (by omega)).trans (two_new w1 _ _).2) (by rw [HKS.out]; exact info_ints) (by rw [HKS.out]; rfl) HOK.out ?_; intro W2 hI2; have HB2 := Lib.hid (hI2.below (hI1.below (below_two HB1.out HB1.out.size _ _) HB1.out.size) (by have := HB1.out.size; omega)); have G5 := Lib.hid ((hI2.other _ (by omega)).trans hI1.at_); have G6 := Lib.hid hI2.at_; have a0 : W2.cell? ⟨w1.heap.size, 0, none⟩ = some (.pointer (some ⟨bl a, 0, none⟩)) := (by rw [Lib.cell_of_heap G5.out]; exact HA0.out); have d0 := HNX.out W2 HB2.out; clear hI1 hI2))
  have HS3 := Lib.hid (HS.out.below HB2.out)
  have hlt1 : w.heap.size ≤ w1.heap.size := HB1.out.size
  have HL1 := Lib.hid hlt1
  clear hlt1
  have HBN : Hid (∀ p, p ≤ n + 1 → bl p < w1.heap.size) := Lib.hid (fun p hp => by have := HS.out.lt hp; have := HL1.out; omega)
  have HP0 : Hid (DelR W2 own n bl ht a 0 W2) := Lib.hid ⟨Frm.refl _, rfl, fun _ _ => rfl, HS3.out.node, fun _ _ _ => rfl, fun h hh => absurd hh (Nat.not_lt_zero _), fun h _ hh => HS3.out.lvl h hh⟩
  go_loopw [29] (fun hh wr => ∃ j : Nat, j ≤ 32 ∧ hh = .int .i64 (j : Int) ∧ Hid (DelR W2 own n bl ht a j wr)) (fun hh _ => 32 - (intOf hh).toNat)
  case atStart => exact ⟨0, by omega, rfl, HP0⟩
  case round =>
    obtain ⟨j, hj, rfl, HPR⟩ := hrel
    clear HP0 a0 d0
    by_cases hlt : j < 32
    · have hj32 : (j : Int) < 32 := by omega
      obtain ⟨b, hla, hA, hK⟩ := HW.out.2.2 j (Nat.zero_le _) hlt
      have hbn : b ≤ n + 1 := by have := hla.1; have := HP.out; omega
      have k5 := (HPR.out.keep w1.heap.size (fun p hp => by have := HBN.out p hp; omega)).trans G5.out
      have c5 : wr.cell? ⟨w1.heap.size, j, none⟩ = some (.pointer (some ⟨bl b, 0, none⟩)) := by rw [Lib.cell_of_heap k5]; exact hA
      obtain ⟨to, sp, c1, c2, hlv⟩ := ((HPR.out.todo j (Nat.le_refl _) hlt) b hbn hla.2.1).vals
      have c1' : wr.cell? ⟨bl b, 3 + j * 2, none⟩ = some (.pointer to) := c1
      have c2' : wr.cell? ⟨bl b, 3 + j * 2 + 1, none⟩ = some (.int .i64 sp) := c2
      have f1 := ((HPR.out.node b hbn).cell (o := 3 + j * 2) (by omega)).2
      have f2 := ((HPR.out.node b hbn).cell (o := 3 + j * 2 + 1) (by omega)).2
      have HLA := Lib.hid hla
      have HC1 := Lib.hid c1
      have HC2 := Lib.hid c2
      have HBB := Lib.hid hbn
      by_cases hjH : j < ht (a + 1)
      · have hto : to = some ⟨bl (a + 1), 0, none⟩ := by
          rcases hlv with ⟨q, b1, b2, b3, b4, e1, _⟩ | ⟨b1, _⟩
          · rw [e1]
            have hqa : q = a + 1 := by
              rcases Nat.lt_trichotomy q (a + 1) with k | k | k
              · have := hla.2.2 q b1 (by omega); omega
              · exact k
              · have := b4 (a + 1) (by have := hla.1; omega) k; omega
            rw [hqa]
          · have := b1 (a + 1) (by have := hla.1; omega) (by have := HP.out; omega); omega
        subst hto
        obtain ⟨tx, sx, x1, x2, _⟩ := ((HPR.out.todo j (Nat.le_refl _) hlt) (a + 1) (by have := HP.out; omega) hjH).vals
        have x1' : wr.cell? ⟨bl (a + 1), 3 + j * 2, none⟩ = some (.pointer tx) := x1
        have x2' : wr.cell? ⟨bl (a + 1), 3 + j * 2 + 1, none⟩ = some (.int .i64 sx) := x2
        have HX1 := Lib.hid x1
        have HX2 := Lib.hid x2
        have HJH := Lib.hid hjH
        have hpe := ptr_same ⟨bl (a + 1), 0, none⟩ wr
        clear hla hA hK hbn k5 c1 c2 hlv x1 x2 hjH
        go_wp2_with fail
        refine wp_region_q [0,0,0,0,0,0,0,1,0,0,0,1,0,0,0,0,0,0,1,0,0,0,0,2] (by kernel_rfl) (by kernel_rfl) ?_
        (refine q_pure_n rfl (fun K hK => ?_); go_simp; refine hK _ _ ?_; clear hK K)
        (refine q_pure_n rfl (fun K hK => ?_); go_simp; refine hK _ _ ?_; clear hK K)
        (refine q_pure_n rfl (fun K hK => ?_); go_simp; refine hK _ _ ?_; clear hK K)
        (refine q_pure_n rfl (fun K hK => ?_); go_simp; refine hK _ _ ?_; clear hK K)
        (refine q_pure_n rfl (fun K hK => ?_); go_simp; refine hK _ _ ?_; clear hK K)
        (refine q_pure_n rfl (fun K hK => ?_); go_simp; refine hK _ _ ?_; clear hK K)
        (refine q_pure_n rfl (fun K hK => ?_); go_simp; refine hK _ _ ?_; clear hK K)
        (refine q_read_n rfl (fun K hK => ?_); go_simp; refine hK _ _ ?_; clear hK K)
        (refine q_pure_n rfl (fun K hK => ?_); go_simp; refine hK _ _ ?_; clear hK K)
        (refine q_pure_n rfl (fun K hK => ?_); go_simp; refine hK _ _ ?_; clear hK K)
        (refine q_pure_n rfl (fun K hK => ?_); go_simp; refine hK _ _ ?_; clear hK K)
        (refine q_read_n rfl (fun K hK => ?_); go_simp; refine hK _ _ ?_; clear hK K)
        (refine q_pure_n rfl (fun K hK => ?_); go_simp; refine hK _ _ ?_; clear hK K)
        (refine q_pure_n rfl (fun K hK => ?_); go_simp; refine hK _ _ ?_; clear hK K)
        (refine q_pure_n rfl (fun K hK => ?_); go_simp; refine hK _ _ ?_; clear hK K)
        (refine q_pure_n rfl (fun K hK => ?_); go_simp; refine hK _ _ ?_; clear hK K)
        (refine q_pure_n rfl (fun K hK => ?_); go_simp; refine hK _ _ ?_; clear hK K)
        (refine q_pure_n rfl (fun K hK => ?_); go_simp; refine hK _ _ ?_; clear hK K)
        (refine q_read_n rfl (fun K hK => ?_); go_simp; refine hK _ _ ?_; clear hK K)
        (refine q_pure_n rfl (fun K hK => ?_); go_simp; refine hK _ _ ?_; clear hK K)
        (refine q_pure_n rfl (fun K hK => ?_); go_simp; refine hK _ _ ?_; clear hK K)
        (refine q_pure_n rfl (fun K hK => ?_); go_simp; refine hK _ _ ?_; clear hK K)
        (refine q_pure_n rfl (fun K hK => ?_); go_simp; refine hK _ _ ?_; clear hK K)
        (refine q_write_n rfl (fun K hK => ?_); go_simp; refine fun nw => ⟨_, ⟨_, rfl⟩, hK _ _ ?_⟩; clear hK K)
        refine q_nil ?_
        intro nq
        go_wp2_with fail
        refine ⟨⟨j + 1, by omega, by go_num, Lib.hid (DelR.drewN ?_ _)⟩, by simp [intOf]; omega⟩
        exact HPR.out.high HJH.out HP.out HLA.out hlt HS.out.inj HS.out.ownb (by have := HS.out.few; omega) HC1.out HC2.out HX1.out HX2.out (by rw [wrap64_i64, wrap64_i64])
      · have HJH := Lib.hid hjH
        have HLV := Lib.hid hlv
        clear hla hA hK hbn k5 c1 c2 hlv hjH
        cases to with
        | none =>
          have CT := Lib.hid HC1.out
          have hpe := ptr_nil ⟨bl (a + 1), 0, none⟩ wr
          go_wp2_with fail
          refine ⟨⟨j + 1, by omega, by go_num, Lib.hid ?_⟩, by simp [intOf]; omega⟩
          exact HPR.out.lowest HP.out HLA.out hlt CT.out
        | some q =>
          have hq : ∃ p, p ≤ n + 1 ∧ p ≠ a + 1 ∧ q = ⟨bl p, 0, none⟩ := by
            rcases HLV.out with ⟨c, b1, b2, b3, b4, e1, _⟩ | ⟨_, e1⟩
            · injection e1 with e1
              exact ⟨c, b2, (fun e => HJH.out (by rw [← e]; exact b3)), e1⟩
            · cases e1
          obtain ⟨p, p1, p2, rfl⟩ := hq
          have hpe := ptr_other (fun e => p2 (HS.out.inj p (a + 1) p1 (by have := HP.out; omega) e)) (HPR.out.node p p1) (HPR.out.node (a + 1) (by have := HP.out; omega))
          clear p1 p2
          go_wp2_with fail
          refine ⟨⟨j + 1, by omega, by go_num, Lib.hid ?_⟩, by simp [intOf]; omega⟩
          exact HPR.out.lower (by have := HJH.out; omega) HP.out HLA.out hlt HS.out.inj HS.out.ownb (by have := HS.out.few; omega) HC1.out HC2.out (by rw [wrap64_i64])
    · obtain rfl : j = 32 := by omega
      have htop := (HPR.out.keep s (fun p hp => Ne.symm (HS.out.nes p hp))).trans HS3.out.top
      have ct : wr.cell? ⟨s, 2, none⟩ = some (.int .i64 ((n + 1 : Nat) : Int)) := by rw [Lib.cell_of_heap htop]; rfl
      have cf := Lib.frozen_of_heap htop 2
      have hsub : wrap64 (n : Int) = (n : Int) := by rw [wrap64_i64, IntKind.wrap_i64]; have := HS.out.few; omega
      clear htop hlt
      go_wp2_with fail
      rw [hsub]
      go_ret
      refine ⟨rfl, del_done HS3.out HP.out HPR.out, ?_⟩
      exact (Frm.of_below HB2.out).trans (HPR.out.frm.set _ _ (fun _ => HS.out.owns)) (fun x _ hx => hx)
end Go.Proofs.YtmlaackdcnpjmaaDoor.Skp
