/- Chapter 07: Delete walked. -/
import Derived.Test.YtnoalklbgncajaaDoorDset07
namespace Go.Proofs.YtnoalklbgncajaaDoor.Dct
open Go Go.MapKept Go.RowKit Go.Proofs.YtnoalklbgncajaaDoor.Pin Go.Proofs.YtnoalklbgncajaaDoor.Mps Go.Proofs.YtnoalklbgncajaaDoor.Bok Go.Proofs.YtnoalklbgncajaaDoor.Uw Go.Proofs.YtnoalklbgncajaaDoor.Sip
attribute [local go_sem high] eql_tab
attribute [local go_sem high] run_store_U cells_U eqGuard_U asIntOf_U
attribute [local go_sem high] eql_map neq_map
/-- what Delete answers, and what the entries are behind it -/
def DelR (k : ByteArray) (l l' : Ents) (e : Ending) : Prop :=
  (e = .returned (.bool true) ∧ ∃ v0, l.Perm ((k, v0) :: l')) ∨ (e = .returned (.bool false) ∧ (∀ y ∈ l, y.1 ≠ k) ∧ l'.Perm l)
set_option maxHeartbeats 4000000 in
set_option maxRecDepth 100000 in
theorem delete_any {w : World} {d : Nat} {s : St} (h : DAt w d s) (hI : Inv s) (k : ByteArray) (hk : k.size ≤ 140737488351232) (hn : s.n ≤ 274877906944) :
    Calls Tryd.prog 11 #[.pointer (some ⟨d, 0, none⟩), .string k] w fun e w' => ∃ s', Trn w w' d s s' ∧ DelR k s.ents s'.ents e := by
  have HG := Lib.hid (gone_no h)
  have HS := Lib.hid (step_any h hI 1 (by omega))
  have HK := Lib.hid hk
  have HNN := Lib.hid hn
  clear h hI hk hn
  go_enter Tryd.func11, Tryd.ntmps11
  go_wp2_with fail
  refine HG.out.mono ?_
  rintro e w' ⟨rfl, rfl⟩
  clear HG
  go_wp2_with fail
  refine HS.out.mono ?_
  rintro e w1 ⟨rfl, s1, hT, hP, hnn, _⟩
  have HT := Lib.hid hT
  have HP := Lib.hid hP
  have HN1 : Hid (s1.n ≤ 274877906944) := Lib.hid (by have := HNN.out; omega)
  have HH := Lib.hid (holder_any hT.at' k HK.out)
  clear hT hP hnn HS
  go_wp2_with fail
  refine HH.out.mono ?_
  rintro e w2 ⟨hh, hb⟩
  have HT2 := Lib.hid (HT.out.below hb)
  clear hb HH HT HNN
  rcases hh.cases HT2.out.inv with ⟨b, l, v0, hL, hm, _, rfl⟩ | ⟨hn, rfl⟩
  · obtain ⟨j, u, hs⟩ := seek_there hm
    obtain ⟨la, lb, v1, e1, _, e3⟩ := seek_split k l 0 j u hs
    have HMA := Lib.hid (hL.at HT2.out.at')
    have HSK := Lib.hid hs
    have HL := Lib.hid hL
    have HE1 := Lib.hid e1
    have HE3 := Lib.hid e3
    clear hh hL hm hs e1 e3
    go_wp2_with (at_delete; refine wpList_del _ rfl _ _ rfl b (mapE l) k rfl rfl HMA.out HSK.out ?_)
    intro w3 hm3 ho3
    rw [HE3.out] at hm3
    obtain ⟨s3, hD3, hTu, hbm⟩ := Loc.turn HT2.out.at' HT2.out.inv HL.out hm3 ho3
    obtain ⟨M, hM⟩ : ∃ M, M = s3.ents.length := ⟨_, rfl⟩
    have c4 : w3.cell? ⟨d, 4, none⟩ = some (.int .i64 (s1.n : Int)) := by rw [Lib.cell_of_heap hD3.top]; simp [St.cells, hTu.nn]
    have hf4 : w3.frozen? ⟨d, 4, none⟩ = false := Lib.frozen_of_heap hD3.top _
    have hM1 : M + 1 = s1.n := by
      obtain ⟨rest, h1, h2⟩ := hTu.ents
      rw [HE1.out] at h1
      rw [hM, HT2.out.inv.cnt, h1.length_eq, h2.length_eq]
      simp
      omega
    have hsub : IntKind.i64.wrap ((s1.n : Int) - 1) = (M : Int) := by have := HN1.out; rw [IntKind.wrap_i64]; omega
    have HMB : Hid (M ≤ 274877906944) := Lib.hid (by have := HN1.out; omega)
    have HTX : Hid (Trn w (w3.setCell ⟨d, 4, none⟩ (.int .i64 (M : Int))) d s { s3 with n := M } ∧ ∃ v0, s.ents.Perm ((k, v0) :: s3.ents)) := Lib.hid (by
      obtain ⟨rest, h1, h2⟩ := hTu.ents
      have hI3 := hTu.inv (by rw [HE1.out]; exact sub_del la lb k v1)
      rw [← hM] at hI3
      rw [HE1.out] at h1
      refine ⟨HT2.out.trans ⟨hD3.setn M, hI3, hTu.sd, ((OnlyMap.frm ho3).mono (fun r _ e => by rw [e]; exact hbm)).set _ _ (fun _ => by simp [St.own]), fun r hr => .inl ?_⟩, v1, ?_⟩
      · have hr : r ∈ s3.own d := hr
        rw [hTu.own] at hr; exact hr
      · refine HP.out.symm.trans (h1.trans ?_)
        refine List.Perm.trans ?_ (h2.symm.cons _)
        rw [List.append_assoc, List.cons_append, List.append_assoc]
        exact List.perm_middle)
    have c1 : w3.cell? ⟨d, 1, none⟩ = some (.slice (some ⟨s3.a0, 0, none⟩) s3.p0.length s3.p0.length) := by rw [Lib.cell_of_heap hD3.top]; rfl
    have HMV : Hid (Calls Tryd.prog 19 #[.pointer (some ⟨d, 0, none⟩)] (w3.setCell ⟨d, 4, none⟩ (.int .i64 (M : Int))) fun e w' => e = .returned (.bool s3.t1.isSome) ∧ (w3.setCell ⟨d, 4, none⟩ (.int .i64 (M : Int))) = w') := Lib.hid (moves_any (s := { s3 with n := M }) HTX.out.1.at')
    have HL0 : Hid (s3.p0.length ≤ 1099511627776) := Lib.hid hD3.len0.2
    clear hm3 ho3 hD3 hTu hbm hM hM1
    rcases s3.t1_cases with ht | ⟨x, ht⟩
    · have H1 := Lib.hid ht
      rw [ht] at HMV
      have hm8 : (M : Int) ≤ 274877906944 := by have := HMB.out; omega
      clear ht
      by_cases h4 : (4 : Int) < (s3.p0.length : Int)
      · by_cases h8 : 8 * (M : Int) < (s3.p0.length : Int)
        · go_wp2_with fail
          refine HMV.out.mono ?_
          rintro e w4 ⟨rfl, rfl⟩
          clear HMV
          have H8 := Lib.hid h8
          have HA4 := HTX.out.1.at'
          have c44 : (w3.setCell ⟨d, 4, none⟩ (.int .i64 (M : Int))).cell? ⟨d, 4, none⟩ = some (.int .i64 (M : Int)) := by rw [Lib.cell_of_heap HA4.top]; rfl
          have c42 : (w3.setCell ⟨d, 4, none⟩ (.int .i64 (M : Int))).cell? ⟨d, 2, none⟩ = some (.slice none 0 0) := by rw [Lib.cell_of_heap HA4.top]; simp [St.cells, H1.out, t1V]
          have hf42 : (w3.setCell ⟨d, 4, none⟩ (.int .i64 (M : Int))).frozen? ⟨d, 2, none⟩ = false := Lib.frozen_of_heap HA4.top _
          clear HA4 c1 c4 hf4
          go_wp2_with fail
          obtain ⟨w4, hw4⟩ : ∃ w4, w4 = w3.setCell ⟨d, 4, none⟩ (.int .i64 (M : Int)) := ⟨_, rfl⟩
          rw [← hw4] at c44 c42 hf42 HTX ⊢
          clear hw4 h8 h4
          go_loopw [7] (fun z wr => Hid (wr = w4) ∧ ∃ N : Nat, z = .int .i64 (N : Int) ∧ Hid (Pw N ∧ N ≤ 1099511627776)) (fun z _ => 1099511627776 - (intOf z).toNat)
          case atStart => exact ⟨Lib.hid rfl, 4, rfl, Lib.hid ⟨⟨2, by omega, rfl⟩, by omega⟩⟩
          case round =>
            obtain ⟨HW, N, rfl, HPN⟩ := hrel
            obtain rfl := HW.out
            have hN0 : 0 < N := by obtain ⟨a, _, e⟩ := HPN.out.1; rw [e]; exact Nat.two_pow_pos a
            have hN1 : (N : Int) ≤ 1099511627776 := by have := HPN.out.2; omega
            by_cases hlt : (N : Int) < 2 * (M : Int)
            · go_wp2_with fail
              refine ⟨⟨Lib.hid trivial, N * 2, by rw [Int.natCast_mul]; rfl, Lib.hid ⟨?_, by omega⟩⟩, by simp only [intOf]; omega⟩
              obtain ⟨a, h1, h2⟩ := HPN.out.1
              exact ⟨a + 1, by omega, by rw [h2, Nat.pow_succ]⟩
            · go_wp2_with fail
              clear c44
              have hmk := fun j : Nat => make_tab (wr.drewN j) N (by omega)
              have HD4 := Lib.hid HTX.out.1.at'
              refine wp_region_q [0,0,2,0,0,0,2] (by kernel_rfl) (by kernel_rfl) ?_
              (refine q_pure_n rfl (fun K hK => ?_); go_simp; refine hK _ _ ?_; clear hK K)
              (refine q_pure_n rfl (fun K hK => ?_); go_simp; refine hK _ _ ?_; clear hK K)
              (refine q_write_n rfl (fun K hK => ?_); go_simp; intro nw; obtain ⟨w', hrun, hta, hbe⟩ := hmk nw; have hbe := (below_drewN (Below.refl wr.heap.size wr) nw).trans hbe; obtain ⟨w', rfl⟩ : ∃ w5, w' = World.drewN w5 0 := ⟨w', rfl⟩; rw [hrun]; refine ⟨_, ⟨_, rfl⟩, hK _ _ ?_⟩; clear hK K; have cw : w'.cell? ⟨d, 2, none⟩ = some (.slice none 0 0) := (World.cell?_of_block (hbe.block d (World.block_lt_of_cell? _ _ c42))).trans c42; have hfw : w'.frozen? ⟨d, 2, none⟩ = false := Lib.frozen_of_heap ((hbe.block d (World.block_lt_of_cell? _ _ c42)).trans HD4.out.top) _)
              (refine q_pure_n rfl (fun K hK => ?_); go_simp; refine hK _ _ ?_; clear hK K)
              (refine q_pure_n rfl (fun K hK => ?_); go_simp; refine hK _ _ ?_; clear hK K)
              (refine q_pure_n rfl (fun K hK => ?_); go_simp; refine hK _ _ ?_; clear hK K)
              (refine q_write_n rfl (fun K hK => ?_); go_simp; refine fun nw => ⟨_, ⟨_, rfl⟩, hK _ _ ?_⟩; clear hK K)
              refine q_nil ?_
              intro nq
              have HTG : Hid (Trn w ((w'.setCell ⟨d, 2, none⟩ (.slice (some ⟨wr.heap.size, 0, none⟩) N N)).drewN nq) d s (St.grown { s3 with n := M } wr.heap.size N)) := Lib.hid (by
                exact (HTX.out.1.trans (Trn.grow HTX.out.1.at' HTX.out.1.inv H1.out rfl hta hbe HPN.out.2 HPN.out.1)).below (below_drewN (Below.refl _ _) nq))
              have HEA : Hid ((St.grown { s3 with n := M } wr.heap.size N).ents = s3.ents) := Lib.hid (grown_ents (s := { s3 with n := M }) H1.out _ _)
              clear hta hbe hrun hmk cw hfw
              go_wp2_with fail
              go_ret
              exact ⟨_, HTG.out, .inl ⟨rfl, by rw [HEA.out]; exact HTX.out.2⟩⟩
        · go_wp2_with fail
          refine HMV.out.mono ?_
          rintro e w4 ⟨rfl, rfl⟩
          clear HMV
          go_wp2_with fail
          go_ret
          exact ⟨_, HTX.out.1, .inl ⟨rfl, HTX.out.2⟩⟩
      · go_wp2_with fail
        refine HMV.out.mono ?_
        rintro e w4 ⟨rfl, rfl⟩
        clear HMV
        go_wp2_with fail
        go_ret
        exact ⟨_, HTX.out.1, .inl ⟨rfl, HTX.out.2⟩⟩
    · rw [ht] at HMV
      clear ht
      go_wp2_with fail
      refine HMV.out.mono ?_
      rintro e w4 ⟨rfl, rfl⟩
      clear HMV
      go_wp2_with fail
      go_ret
      exact ⟨_, HTX.out.1, .inl ⟨rfl, HTX.out.2⟩⟩
  · have HN := Lib.hid hn
    clear hh hn
    go_wp2_with fail
    go_ret
    exact ⟨s1, HT2.out, .inr ⟨rfl, fun y hy => HN.out y ((HP.out.mem_iff).2 hy), HP.out⟩⟩
end Go.Proofs.YtnoalklbgncajaaDoor.Dct
