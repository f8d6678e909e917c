/- Chapter 07: put walked. -/
import Derived.Test.YtnoalklbgncajaaDoorDput07
namespace Go.Proofs.YtnoalklbgncajaaDoor.Dct
open Go Go.RowKit Go.Proofs.YtnoalklbgncajaaDoor.Pin Go.Proofs.YtnoalklbgncajaaDoor.Mps Go.Proofs.YtnoalklbgncajaaDoor.Bok Go.Proofs.YtnoalklbgncajaaDoor.Uw Go.Proofs.YtnoalklbgncajaaDoor.Sip
attribute [local go_sem high] eql_tab
attribute [local go_sem high] run_store_U cells_U eqGuard_U asIntOf_U
attribute [local go_sem high] eql_map neq_map
set_option maxHeartbeats 2000000 in
set_option maxRecDepth 100000 in
theorem put_any {w : World} {d : Nat} {s : St} (h : DAt w d s) (k : ByteArray) (v : Int) (hk : k.size ≤ 140737488351232)
    (hnew : ∀ b l, s.tg.2[plc s.sd k s.tg.2.length]? = some (some (b, l)) → ∀ x ∈ l, x.1 ≠ k) :
    Calls Tryd.prog 20 #[.pointer (some ⟨d, 0, none⟩), .string k, .int .i64 v] w fun e w' => e = .returned (.tuple #[]) ∧ ∃ ps', PutPs w (plc s.sd k s.tg.2.length) k v s.tg.2 ps' ∧ DAt w' d (s.withT ps') ∧ Frm (fun b => b = s.tg.1 ∨ b ∈ blks s.tg.2) w w' := by
  have HD := Lib.hid h
  have HM := Lib.hid (moves_any h)
  have c1 : w.cell? ⟨d, 1, none⟩ = some (.slice (some ⟨s.a0, 0, none⟩) s.p0.length s.p0.length) := by rw [Lib.cell_of_heap h.top]; rfl
  have c2 : w.cell? ⟨d, 2, none⟩ = some (t1V s.t1) := by rw [Lib.cell_of_heap h.top]; rfl
  have HN := Lib.hid hnew
  obtain ⟨HTA, _, _, hl0, hl1⟩ := h.tabT
  have HF := Lib.hid (find_any h (some ⟨s.tg.1, 0, none⟩) s.tg.2.length s.tg.2.length k hl0 hl1 hk)
  obtain ⟨i, hi⟩ : ∃ i, i = plc s.sd k s.tg.2.length := ⟨_, rfl⟩
  have HIL : Hid (i < s.tg.2.length) := Lib.hid (by rw [hi]; exact plc_lt _ _ hl0 hl1)
  rw [← hi] at HF HN ⊢
  have HTG : Hid (s.tg = s.tg) := Lib.hid rfl
  rcases s.t1_cases with ht | ⟨x, ht⟩
  · have e1 : s.tg = (s.a0, s.p0) := St.tg_none ht
    have e2 : ∀ ps, s.withT ps = s.withT ps := fun _ => rfl
    rw [e1] at HTA HN HF HIL ⊢
    rw [ht] at HM c2
    have HE := Lib.hid e1
    clear c2
    clear h hnew hl0 hl1 ht e1 e2 hi
    go_enter Tryd.func20, Tryd.ntmps20
    go_wp2_with fail
    refine HM.out.mono ?_
    rintro e w' ⟨rfl, rfl⟩
    go_wp2_with fail
    refine HF.out.mono ?_
    rintro e w1 ⟨rfl, hb1⟩
    have HD1 := Lib.hid (HD.out.below hb1)
    have HB1 := Lib.hid hb1
    have HT1 : Hid (TabAt w1 s.a0 s.p0) := Lib.hid (by have := HD1.out.tabT.1; rw [HE.out] at this; exact this)
    have hpl : ∃ z, (s.p0)[i]? = some z := ⟨_, List.getElem?_eq_getElem HIL.out⟩
    obtain ⟨z, hz⟩ := hpl
    have hcell : w1.cell? ⟨s.a0, i, none⟩ = some (plV z) := by
      rw [Lib.cell_of_heap HT1.out.row]
      simp [hz]
    have hfz : w1.frozen? ⟨s.a0, i, none⟩ = false := Lib.frozen_of_heap HT1.out.row i
    have HX := Lib.hid hz
    clear hb1 HM HF
    cases z with
    | some y =>
      obtain ⟨b, l⟩ := y
      have hc2 : w1.cell? ⟨s.a0, i, none⟩ = some (.map (some b)) := hcell
      have HMA := Lib.hid (HT1.out.map (some (b, l)) (List.mem_of_getElem? HX.out) b l rfl)
      have HS := Lib.hid (seek_new (l := l) 0 (HN.out b l HX.out))
      clear hcell hz
      go_wp2_with (at_mapUpdate; refine wpList_put_new _ rfl _ _ _ rfl b (mapE l) k (.int .i64 v) rfl rfl rfl HMA.out HS.out ?_)
      intro w2 hm2 ho2
      have hm3 : MapAt w2 b (mapE (l ++ [(k, v)])) := by unfold mapE; rw [List.map_append]; exact hm2
      have HP : Hid (PutPs w i k v s.p0 ((s.p0).set i (some (b, l ++ [(k, v)])))) := Lib.hid ⟨b, l, rfl, .inl HX.out⟩
      have HDD : Hid (DAt w2 d (s.withT ((s.p0).set i (some (b, l ++ [(k, v)]))))) := Lib.hid (by have := HD1.out.turnT (by rw [HE.out]; exact HX.out) hm3 ho2; rw [HE.out] at this; exact this)
      have HFF : Hid (Frm (fun r => r = s.a0 ∨ r ∈ blks s.p0) w w2) := Lib.hid ((Frm.of_below HB1.out).trans (own := fun r => r = s.a0 ∨ r ∈ blks s.p0) (OnlyMap.frm ho2) (fun r _ e => by rw [e]; exact .inr (blks_mem (List.mem_of_getElem? HX.out))))
      clear hm2 hm3 ho2
      go_wp2_with fail
      first | refine bodyPost_end (results_none rfl _ _ _) rfl ?_ | refine bodyPost_ret (results_none rfl _ _ _) rfl ?_
      exact ⟨rfl, _, HP.out, HDD.out, HFF.out⟩
    | none =>
      have hc2 : w1.cell? ⟨s.a0, i, none⟩ = some (.map none) := hcell
      have HF1 := Lib.hid (HD1.out.freshT (i := i) (by rw [HE.out]; exact HX.out))
      rw [HE.out] at HF1
      have hmm := @run_makeMap Tryd.prog
      have hne : s.a0 < w1.heap.size := HT1.out.lt.1
      have hcA : (w1.alloc (.map #[] 0)).cell? ⟨s.a0, i, none⟩ = some (.map none) := by
        rw [← hc2]
        exact World.cell?_of_block (heap_alloc_old w1 _ hne)
      have hfA : (w1.alloc (.map #[] 0)).frozen? ⟨s.a0, i, none⟩ = false := by
        exact Lib.frozen_of_heap ((heap_alloc_old w1 _ hne).trans HT1.out.row) i
      obtain ⟨wA, hwA⟩ : ∃ wA, wA = w1.alloc (.map #[] 0) := ⟨_, rfl⟩
      have hmk : (Instr.makeMap 52 none).run Tryd.prog w1 = .ok (.map (some w1.heap.size)) wA := by rw [hwA]; rfl
      rw [← hwA] at hcA hfA HF1
      obtain ⟨M, hM⟩ : ∃ M, M = w1.heap.size := ⟨_, rfl⟩
      rw [← hM] at hmk HF1
      have hcB : (wA.setCell ⟨s.a0, i, none⟩ (.map (some M))).cell? ⟨s.a0, i, none⟩ = some (.map (some M)) := by
        exact World.cell?_setCell_same' wA _ _ (by rw [hcA]; rfl)
      have HFA : Hid (Frm (fun r => r = s.a0 ∨ r ∈ blks s.p0) w (wA.setCell ⟨s.a0, i, none⟩ (.map (some M)))) := Lib.hid (((Frm.of_below (own := fun r => r = s.a0 ∨ r ∈ blks s.p0) HB1.out).grown (row := none) (by rw [hwA]; exact World.grownBy_alloc _ _ _) (fun b e => by cases e)).set _ _ (fun _ => .inl rfl))
      have HMB : Hid (w.heap.size ≤ M) := Lib.hid (by rw [hM]; exact HB1.out.size)
      clear hcell hz hmm hne
      have HMA : Hid (MapAt (wA.setCell ⟨s.a0, i, none⟩ (.map (some M))) M (mapE [])) := Lib.hid (by
        have h1 := HF1.out.tabT.1
        rw [St.tg_withT] at h1
        exact h1.map (some (M, [])) (List.mem_iff_getElem?.2 ⟨i, by rw [List.getElem?_set_self HIL.out]⟩) M [] rfl)
      have HIX : Hid ((s.withT ((s.p0).set i (some (M, [])))).tg.2[i]? = some (some (M, []))) := Lib.hid (by rw [St.tg_withT]; exact List.getElem?_set_self HIL.out)
      clear hwA hM
      go_wp2_with (at_mapUpdate; refine wpList_put_new _ rfl _ _ _ rfl M (mapE []) k (.int .i64 v) rfl rfl rfl HMA.out rfl ?_)
      intro w2 hm2 ho2
      have hm3 : MapAt w2 M (mapE ([] ++ [(k, v)])) := by unfold mapE; rw [List.map_append]; exact hm2
      have HP : Hid (PutPs w i k v s.p0 ((s.p0).set i (some (M, [] ++ [(k, v)])))) := Lib.hid ⟨M, [], rfl, .inr ⟨HX.out, rfl, HMB.out⟩⟩
      have HDD : Hid (DAt w2 d (s.withT ((s.p0).set i (some (M, [] ++ [(k, v)]))))) := Lib.hid (by
        have := HF1.out.turnT HIX.out hm3 ho2
        rw [St.tg_withT, St.withT_withT, List.set_set] at this
        exact this)
      have HFF : Hid (Frm (fun r => r = s.a0 ∨ r ∈ blks s.p0) w w2) := Lib.hid (HFA.out.trans (own := fun r => r = s.a0 ∨ r ∈ blks s.p0) (own' := fun r => r = M) (OnlyMap.frm ho2) (fun r hr e => absurd HMB.out (by omega)))
      clear hm2 hm3 ho2
      go_wp2_with fail
      first | refine bodyPost_end (results_none rfl _ _ _) rfl ?_ | refine bodyPost_ret (results_none rfl _ _ _) rfl ?_
      exact ⟨rfl, _, HP.out, HDD.out, HFF.out⟩
  · have e1 : s.tg = x := St.tg_some ht
    have e2 : ∀ ps, s.withT ps = s.withT ps := fun _ => rfl
    rw [e1] at HTA HN HF HIL ⊢
    rw [ht] at HM c2
    have HE := Lib.hid e1
    have c3 : w.cell? ⟨d, 2, none⟩ = some (.slice (some ⟨x.1, 0, none⟩) x.2.length x.2.length) := c2
    clear c2
    clear h hnew hl0 hl1 ht e1 e2 hi
    go_enter Tryd.func20, Tryd.ntmps20
    go_wp2_with fail
    refine HM.out.mono ?_
    rintro e w' ⟨rfl, rfl⟩
    go_wp2_with fail
    refine HF.out.mono ?_
    rintro e w1 ⟨rfl, hb1⟩
    have HD1 := Lib.hid (HD.out.below hb1)
    have HB1 := Lib.hid hb1
    have HT1 : Hid (TabAt w1 x.1 x.2) := Lib.hid (by have := HD1.out.tabT.1; rw [HE.out] at this; exact this)
    have hpl : ∃ z, (x.2)[i]? = some z := ⟨_, List.getElem?_eq_getElem HIL.out⟩
    obtain ⟨z, hz⟩ := hpl
    have hcell : w1.cell? ⟨x.1, i, none⟩ = some (plV z) := by
      rw [Lib.cell_of_heap HT1.out.row]
      simp [hz]
    have hfz : w1.frozen? ⟨x.1, i, none⟩ = false := Lib.frozen_of_heap HT1.out.row i
    have HX := Lib.hid hz
    clear hb1 HM HF
    cases z with
    | some y =>
      obtain ⟨b, l⟩ := y
      have hc2 : w1.cell? ⟨x.1, i, none⟩ = some (.map (some b)) := hcell
      have HMA := Lib.hid (HT1.out.map (some (b, l)) (List.mem_of_getElem? HX.out) b l rfl)
      have HS := Lib.hid (seek_new (l := l) 0 (HN.out b l HX.out))
      clear hcell hz
      go_wp2_with (at_mapUpdate; refine wpList_put_new _ rfl _ _ _ rfl b (mapE l) k (.int .i64 v) rfl rfl rfl HMA.out HS.out ?_)
      intro w2 hm2 ho2
      have hm3 : MapAt w2 b (mapE (l ++ [(k, v)])) := by unfold mapE; rw [List.map_append]; exact hm2
      have HP : Hid (PutPs w i k v x.2 ((x.2).set i (some (b, l ++ [(k, v)])))) := Lib.hid ⟨b, l, rfl, .inl HX.out⟩
      have HDD : Hid (DAt w2 d (s.withT ((x.2).set i (some (b, l ++ [(k, v)]))))) := Lib.hid (by have := HD1.out.turnT (by rw [HE.out]; exact HX.out) hm3 ho2; rw [HE.out] at this; exact this)
      have HFF : Hid (Frm (fun r => r = x.1 ∨ r ∈ blks x.2) w w2) := Lib.hid ((Frm.of_below HB1.out).trans (own := fun r => r = x.1 ∨ r ∈ blks x.2) (OnlyMap.frm ho2) (fun r _ e => by rw [e]; exact .inr (blks_mem (List.mem_of_getElem? HX.out))))
      clear hm2 hm3 ho2
      go_wp2_with fail
      first | refine bodyPost_end (results_none rfl _ _ _) rfl ?_ | refine bodyPost_ret (results_none rfl _ _ _) rfl ?_
      exact ⟨rfl, _, HP.out, HDD.out, HFF.out⟩
    | none =>
      have hc2 : w1.cell? ⟨x.1, i, none⟩ = some (.map none) := hcell
      have HF1 := Lib.hid (HD1.out.freshT (i := i) (by rw [HE.out]; exact HX.out))
      rw [HE.out] at HF1
      have hmm := @run_makeMap Tryd.prog
      have hne : x.1 < w1.heap.size := HT1.out.lt.1
      have hcA : (w1.alloc (.map #[] 0)).cell? ⟨x.1, i, none⟩ = some (.map none) := by
        rw [← hc2]
        exact World.cell?_of_block (heap_alloc_old w1 _ hne)
      have hfA : (w1.alloc (.map #[] 0)).frozen? ⟨x.1, i, none⟩ = false := by
        exact Lib.frozen_of_heap ((heap_alloc_old w1 _ hne).trans HT1.out.row) i
      obtain ⟨wA, hwA⟩ : ∃ wA, wA = w1.alloc (.map #[] 0) := ⟨_, rfl⟩
      have hmk : (Instr.makeMap 52 none).run Tryd.prog w1 = .ok (.map (some w1.heap.size)) wA := by rw [hwA]; rfl
      rw [← hwA] at hcA hfA HF1
      obtain ⟨M, hM⟩ : ∃ M, M = w1.heap.size := ⟨_, rfl⟩
      rw [← hM] at hmk HF1
      have hcB : (wA.setCell ⟨x.1, i, none⟩ (.map (some M))).cell? ⟨x.1, i, none⟩ = some (.map (some M)) := by
        exact World.cell?_setCell_same' wA _ _ (by rw [hcA]; rfl)
      have HFA : Hid (Frm (fun r => r = x.1 ∨ r ∈ blks x.2) w (wA.setCell ⟨x.1, i, none⟩ (.map (some M)))) := Lib.hid (((Frm.of_below (own := fun r => r = x.1 ∨ r ∈ blks x.2) HB1.out).grown (row := none) (by rw [hwA]; exact World.grownBy_alloc _ _ _) (fun b e => by cases e)).set _ _ (fun _ => .inl rfl))
      have HMB : Hid (w.heap.size ≤ M) := Lib.hid (by rw [hM]; exact HB1.out.size)
      clear hcell hz hmm hne
      have HMA : Hid (MapAt (wA.setCell ⟨x.1, i, none⟩ (.map (some M))) M (mapE [])) := Lib.hid (by
        have h1 := HF1.out.tabT.1
        rw [St.tg_withT] at h1
        exact h1.map (some (M, [])) (List.mem_iff_getElem?.2 ⟨i, by rw [List.getElem?_set_self HIL.out]⟩) M [] rfl)
      have HIX : Hid ((s.withT ((x.2).set i (some (M, [])))).tg.2[i]? = some (some (M, []))) := Lib.hid (by rw [St.tg_withT]; exact List.getElem?_set_self HIL.out)
      clear hwA hM
      go_wp2_with (at_mapUpdate; refine wpList_put_new _ rfl _ _ _ rfl M (mapE []) k (.int .i64 v) rfl rfl rfl HMA.out rfl ?_)
      intro w2 hm2 ho2
      have hm3 : MapAt w2 M (mapE ([] ++ [(k, v)])) := by unfold mapE; rw [List.map_append]; exact hm2
      have HP : Hid (PutPs w i k v x.2 ((x.2).set i (some (M, [] ++ [(k, v)])))) := Lib.hid ⟨M, [], rfl, .inr ⟨HX.out, rfl, HMB.out⟩⟩
      have HDD : Hid (DAt w2 d (s.withT ((x.2).set i (some (M, [] ++ [(k, v)]))))) := Lib.hid (by
        have := HF1.out.turnT HIX.out hm3 ho2
        rw [St.tg_withT, St.withT_withT, List.set_set] at this
        exact this)
      have HFF : Hid (Frm (fun r => r = x.1 ∨ r ∈ blks x.2) w w2) := Lib.hid (HFA.out.trans (own := fun r => r = x.1 ∨ r ∈ blks x.2) (own' := fun r => r = M) (OnlyMap.frm ho2) (fun r hr e => absurd HMB.out (by omega)))
      clear hm2 hm3 ho2
      go_wp2_with fail
      first | refine bodyPost_end (results_none rfl _ _ _) rfl ?_ | refine bodyPost_ret (results_none rfl _ _ _) rfl ?_
      exact ⟨rfl, _, HP.out, HDD.out, HFF.out⟩
end Go.Proofs.YtnoalklbgncajaaDoor.Dct
