/- Chapter 07: Set and Get walked. -/
import Derived.Test.YtnoalklbgncajaaDoorDg07
namespace Go.Proofs.YtnoalklbgncajaaDoor.Dct
open Go Go.MapKept Go.RowKit Go.Proofs.YtnoalklbgncajaaDoor.Pin Go.Proofs.YtnoalklbgncajaaDoor.Mps Go.Proofs.YtnoalklbgncajaaDoor.Bok Go.Proofs.YtnoalklbgncajaaDoor.Uw Go.Proofs.YtnoalklbgncajaaDoor.Sip
attribute [local go_sem high] eql_tab
attribute [local go_sem high] run_store_U cells_U eqGuard_U asIntOf_U
attribute [local go_sem high] eql_map neq_map
/-- what Set answers, and what the entries are behind it -/
def SetR (k : ByteArray) (v : Int) (l l' : Ents) (e : Ending) : Prop :=
  (e = .returned (.bool false) ∧ ∃ v0 rest, l.Perm ((k, v0) :: rest) ∧ l'.Perm ((k, v) :: rest)) ∨ (e = .returned (.bool true) ∧ (∀ y ∈ l, y.1 ≠ k) ∧ l'.Perm ((k, v) :: l))
/-- the sizes behind Set, out of those behind its step -/
def setS (new : Bool) (n : Nat) : Shp → Shp
  | (N, none, mv) => if new = true ∧ n = N then (N, some (2 * N), mv) else (N, none, mv)
  | (N, some M, mv) => (N, some M, mv)
theorem setS_old (n : Nat) (x : Shp) : setS false n x = x := by
  obtain ⟨N, t, mv⟩ := x
  cases t <;> simp [setS]
def GetR (k : ByteArray) (l : Ents) (e : Ending) : Prop :=
  (∃ v, e = .returned (.tuple #[.int .i64 v, .bool true]) ∧ (k, v) ∈ l) ∨ (e = .returned (.tuple #[.int .i64 0, .bool false]) ∧ ∀ y ∈ l, y.1 ≠ k)
theorem Loc.at {w : World} {d : Nat} {s : St} {k : ByteArray} {b : Nat} {l : Ents} (h : DAt w d s) (hL : Loc s k b l) : MapAt w b (mapE l) := by
  rcases hL with hi | ⟨x, ht, hi⟩
  · exact h.tab0.map _ (List.mem_of_getElem? hi) b l rfl
  · exact (h.tab1 x ht).map _ (List.mem_of_getElem? hi) b l rfl
theorem Loc.mem {s : St} {k : ByteArray} {b : Nat} {l : Ents} (hL : Loc s k b l) {y : ByteArray × Int} (hy : y ∈ l) : y ∈ s.ents := by
  rcases hL with hi | ⟨x, ht, hi⟩
  · exact List.mem_append_left _ (mem_flat.2 ⟨_, b, l, hi, hy⟩)
  · exact List.mem_append_right _ (by rw [ht]; exact mem_flat.2 ⟨_, b, l, hi, hy⟩)
set_option maxHeartbeats 2000000 in
set_option maxRecDepth 100000 in
theorem get_any {w : World} {d : Nat} {s : St} (h : DAt w d s) (hI : Inv s) (k : ByteArray) (hk : k.size ≤ 140737488351232) :
    Calls Tryd.prog 14 #[.pointer (some ⟨d, 0, none⟩), .string k] w fun e w' => GetR k s.ents e ∧ Below w.heap.size w w' := by
  have HG := Lib.hid (gone_no h)
  have HH := Lib.hid (holder_any h k hk)
  have HD := Lib.hid h
  have HI := Lib.hid hI
  clear h hI
  go_enter Tryd.func14, Tryd.ntmps14
  go_wp2_with fail
  refine HG.out.mono ?_
  rintro e w' ⟨rfl, rfl⟩
  go_wp2_with fail
  refine HH.out.mono ?_
  rintro e w1 ⟨hh, hb⟩
  have HB := Lib.hid hb
  rcases hh.cases HI.out with ⟨b, l, v, hL, hm, hme, rfl⟩ | ⟨hn, rfl⟩
  · have hlk := look_pl (w := w1) (z := some (b, l)) (fun b' l' e => by cases e; exact hL.at (HD.out.below hb)) k
    have HME : Hid (∀ v', (k, v') ∈ l → (k, v') ∈ s.ents) := Lib.hid (fun v' h' => hL.mem h')
    have HMM := Lib.hid hm
    clear hh hL hm hme hb
    rcases hlk with ⟨b', l', v', e, hmem, hrun⟩ | ⟨hnot, hrun⟩
    · have hmem : (k, v') ∈ l := by cases e; exact hmem
      have HM := Lib.hid (HME.out v' hmem)
      clear hmem e
      have hrun2 : (Instr.lookup 52 (.map (some b)) (.string k) true).run Tryd.prog w1 = .ok (.tuple #[.int .i64 v', .bool true]) w1 := hrun
      clear hrun
      go_wp2_with fail
      refine bodyPost_ret (results_tmp2 rfl _ _ _) rfl ?_
      exact ⟨.inl ⟨v', rfl, HM.out⟩, HB.out⟩
    · exact absurd rfl (hnot b l rfl _ HMM.out)
  · have hlk := look_pl (w := w1) (z := none) (fun b' l' e => by cases e) k
    have HN := Lib.hid hn
    clear hh hb hn
    rcases hlk with ⟨b', l', v', e, hmem, hrun⟩ | ⟨hnot, hrun⟩
    · cases e
    · have hrun2 : (Instr.lookup 52 (.map none) (.string k) true).run Tryd.prog w1 = .ok (.tuple #[.int .i64 0, .bool false]) w1 := hrun
      clear hrun hnot
      go_wp2_with fail
      refine bodyPost_ret (results_tmp2 rfl _ _ _) rfl ?_
      exact ⟨.inr ⟨rfl, HN.out⟩, HB.out⟩
theorem tg_sub {s : St} {y : ByteArray × Int} (h : y ∈ flat s.tg.2) : y ∈ s.ents := by
  rcases s.t1_cases with ht | ⟨x, ht⟩
  · rw [St.tg_none ht] at h; exact List.mem_append_left _ h
  · rw [St.tg_some ht] at h; exact List.mem_append_right _ (by rw [ht]; exact h)
theorem put_new_any {w : World} {d : Nat} {s : St} (h : DAt w d s) (k : ByteArray) (v : Int) (hk : k.size ≤ 140737488351232) (hnew : ∀ y ∈ s.ents, y.1 ≠ k) :
    Calls Tryd.prog 20 #[.pointer (some ⟨d, 0, none⟩), .string k, .int .i64 v] w fun e w' => e = .returned (.tuple #[]) ∧ ∃ ps', PutPs w (plc s.sd k s.tg.2.length) k v s.tg.2 ps' ∧ DAt w' d (s.withT ps') ∧ Frm (fun b => b = s.tg.1 ∨ b ∈ blks s.tg.2) w w' :=
  put_any h k v hk (fun b l hb => new_at (fun y hy => hnew y (tg_sub hy)) b l hb)
theorem withT_shape {s : St} {ps : List Pl} (hl : ps.length = s.tg.2.length) (m : Nat) : St.shape { s.withT ps with n := m } = s.shape := by
  rcases s.t1_cases with ht | ⟨x, ht⟩
  · rw [St.withT_none ht]
    rw [St.tg_none ht] at hl
    simp [St.shape, ht, hl]
  · rw [St.withT_some ht]
    rw [St.tg_some ht] at hl
    simp [St.shape, ht, hl]
theorem withT_n (s : St) (ps : List Pl) : (s.withT ps).n = s.n := by
  rcases s.t1_cases with ht | ⟨x, ht⟩
  · rw [St.withT_none ht]
  · rw [St.withT_some ht]
set_option maxHeartbeats 4000000 in
set_option maxRecDepth 100000 in
theorem set_any {w : World} {d : Nat} {s : St} (h : DAt w d s) (hI : Inv s) (k : ByteArray) (v : Int) (hk : k.size ≤ 140737488351232) (hn : s.n ≤ 274877906944) :
    Calls Tryd.prog 7 #[.pointer (some ⟨d, 0, none⟩), .string k, .int .i64 v] w fun e w' => ∃ s', Trn w w' d s s' ∧ SetR k v s.ents s'.ents e ∧ ∀ b, e = .returned (.bool b) → s'.shape = setS b s.n (stepS1 s.shape) := by
  have HG := Lib.hid (gone_no h)
  have HS := Lib.hid (step_any h hI 1 (by omega))
  have HK := Lib.hid hk
  have HNN := Lib.hid hn
  clear h hI hk hn
  go_enter Tryd.func7, Tryd.ntmps7
  go_wp2_with fail
  refine HG.out.mono ?_
  rintro e w' ⟨rfl, rfl⟩
  clear HG
  go_wp2_with fail
  refine HS.out.mono ?_
  rintro e w1 ⟨rfl, s1, hT, hP, hnn, hsh⟩
  have HNE := Lib.hid hnn
  have HSH : Hid (s1.shape = stepS1 s.shape) := Lib.hid hsh
  clear hsh
  have HT := Lib.hid hT
  have HP := Lib.hid hP
  have HN1 : Hid (s1.n ≤ 274877906944) := Lib.hid (by have := HNN.out; omega)
  have HH := Lib.hid (holder_any hT.at' k HK.out)
  clear hT hP hnn HS
  go_wp2_with fail
  refine HH.out.mono ?_
  rintro e w2 ⟨hh, hb⟩
  have HT2 := Lib.hid (HT.out.below hb)
  clear hb HH HT HNN
  rcases hh.cases HT2.out.inv with ⟨b, l, v0, hL, hm, _, rfl⟩ | ⟨hn, rfl⟩
  · obtain ⟨j, u, hs⟩ := seek_there hm
    obtain ⟨la, lb, v1, e1, e2, _⟩ := seek_split k l 0 j u hs
    have HMA := Lib.hid (hL.at HT2.out.at')
    have HSK := Lib.hid hs
    have HL := Lib.hid hL
    have HE1 := Lib.hid e1
    have HE2 := Lib.hid (e2 v)
    clear hh hL hm hs e1 e2
    go_wp2_with (at_mapUpdate; refine wpList_put_old _ rfl _ _ _ rfl b (mapE l) k (.int .i64 v) rfl rfl rfl HMA.out HSK.out ?_)
    intro w3 hm3 ho3
    rw [HE2.out] at hm3
    obtain ⟨s3, hD3, hTu, hbm⟩ := Loc.turn HT2.out.at' HT2.out.inv HL.out hm3 ho3
    have HEND : Hid (Trn w2 w3 d s1 s3 ∧ s3.shape = s1.shape ∧ ∃ rest, s1.ents.Perm ((k, v1) :: rest) ∧ s3.ents.Perm ((k, v) :: rest)) := Lib.hid (by
      obtain ⟨rest, h1, h2⟩ := hTu.ents
      rw [HE1.out] at h1
      have hlen : s3.ents.length = s3.n := by
        rw [hTu.nn, HT2.out.inv.cnt, h1.length_eq, h2.length_eq]
        simp
      have hI3 := hTu.inv (by rw [HE1.out]; exact sub_upd la lb k v v1)
      rw [hlen] at hI3
      refine ⟨⟨hD3, hI3, hTu.sd, (OnlyMap.frm ho3).mono (fun r _ e => by rw [e]; exact hbm), fun r hr => .inl (by rw [hTu.own] at hr; exact hr)⟩, hTu.len, la ++ lb ++ rest, h1.trans ?_, h2.trans ?_⟩
      · rw [List.append_assoc, List.cons_append, List.append_assoc]; exact List.perm_middle
      · rw [List.append_assoc, List.cons_append, List.append_assoc]; exact List.perm_middle)
    clear hm3 ho3 hD3 hTu hbm
    go_wp2_with fail
    go_ret
    obtain ⟨h1, h4, rest, h2, h3⟩ := HEND.out
    exact ⟨s3, HT2.out.trans h1, .inl ⟨rfl, v1, rest, HP.out.symm.trans h2, h3⟩, fun b e => (by cases e; rw [h4, HSH.out, setS_old])⟩
  · have HN := Lib.hid hn
    have hDA := HT2.out.at'
    have c1 : w2.cell? ⟨d, 1, none⟩ = some (.slice (some ⟨s1.a0, 0, none⟩) s1.p0.length s1.p0.length) := by rw [Lib.cell_of_heap hDA.top]; rfl
    have c4 : w2.cell? ⟨d, 4, none⟩ = some (.int .i64 (s1.n : Int)) := by rw [Lib.cell_of_heap hDA.top]; rfl
    have HMV := Lib.hid (moves_any hDA)
    clear hDA hh hn
    rcases s1.t1_cases with ht | ⟨x, ht⟩
    · have H1 := Lib.hid ht
      rw [ht] at HMV
      have c2 : w2.cell? ⟨d, 2, none⟩ = some (.slice none 0 0) := by rw [Lib.cell_of_heap HT2.out.at'.top]; simp [St.cells, ht, t1V]
      have hf2 : w2.frozen? ⟨d, 2, none⟩ = false := Lib.frozen_of_heap HT2.out.at'.top _
      clear ht
      by_cases hq : s1.n = s1.p0.length
      · have HQ := Lib.hid hq
        have hdec : ((s1.n : Int) == (s1.p0.length : Int)) = true := by rw [beq_iff_eq]; omega
        obtain ⟨N, hN⟩ : ∃ N, N = 2 * s1.p0.length := ⟨_, rfl⟩
        have hmul : IntKind.i64.wrap (2 * (s1.p0.length : Int)) = (N : Int) := by have := HN1.out; rw [IntKind.wrap_i64]; omega
        have HNL := Lib.hid hN
        have hmk := fun j : Nat => make_tab (w2.drewN j) N (by have := HN1.out; omega)
        clear hq hN
        go_wp2_with fail
        refine HMV.out.mono ?_
        rintro e w3 ⟨rfl, rfl⟩
        clear HMV
        go_wp2_with fail
        refine wp_region_q [0,0,0,2,0,0,0,2] (by kernel_rfl) (by kernel_rfl) ?_
        (refine q_pure_n rfl (fun K hK => ?_); go_simp; refine hK _ _ ?_; clear hK K)
        (refine q_pure_n rfl (fun K hK => ?_); go_simp; refine hK _ _ ?_; clear hK K)
        (refine q_pure_n rfl (fun K hK => ?_); go_simp; refine hK _ _ ?_; clear hK K)
        (refine q_write_n rfl (fun K hK => ?_); go_simp; intro nw; obtain ⟨w', hrun, hta, hbe⟩ := hmk nw; have hbe := (below_drewN (Below.refl w2.heap.size w2) nw).trans hbe; obtain ⟨w', rfl⟩ : ∃ w5, w' = World.drewN w5 0 := ⟨w', rfl⟩; rw [hrun]; refine ⟨_, ⟨_, rfl⟩, hK _ _ ?_⟩; clear hK K; have cw : w'.cell? ⟨d, 2, none⟩ = some (.slice none 0 0) := (World.cell?_of_block (hbe.block d (World.block_lt_of_cell? _ _ c2))).trans c2; have hfw : w'.frozen? ⟨d, 2, none⟩ = false := Lib.frozen_of_heap ((hbe.block d (World.block_lt_of_cell? _ _ c2)).trans HT2.out.at'.top) _)
        (refine q_pure_n rfl (fun K hK => ?_); go_simp; refine hK _ _ ?_; clear hK K)
        (refine q_pure_n rfl (fun K hK => ?_); go_simp; refine hK _ _ ?_; clear hK K)
        (refine q_pure_n rfl (fun K hK => ?_); go_simp; refine hK _ _ ?_; clear hK K)
        (refine q_write_n rfl (fun K hK => ?_); go_simp; refine fun nw => ⟨_, ⟨_, rfl⟩, hK _ _ ?_⟩; clear hK K)
        refine q_nil ?_
        intro nq
        have HTG : Hid (Trn w ((w'.setCell ⟨d, 2, none⟩ (.slice (some ⟨w2.heap.size, 0, none⟩) N N)).drewN nq) d s (s1.grown w2.heap.size N)) := Lib.hid (by
          have hPw : Pw N := by obtain ⟨a, h1, h2⟩ := HT2.out.inv.pow0; exact ⟨a + 1, by omega, by rw [HNL.out, h2, Nat.pow_succ]; omega⟩
          have hlt : N ≤ 1099511627776 := by have h1 := HNL.out; have h2 := HN1.out; have h3 := HQ.out; omega
          exact (HT2.out.trans (Trn.grow HT2.out.at' HT2.out.inv H1.out rfl hta hbe hlt hPw)).below (below_drewN (Below.refl _ _) nq))
        have HEA : Hid ((s1.grown w2.heap.size N).ents = s1.ents) := Lib.hid (grown_ents H1.out _ _)
        obtain ⟨g, hg⟩ : ∃ g, g = w2.heap.size := ⟨_, rfl⟩
        rw [← hg] at HTG HEA ⊢
        obtain ⟨wA, hwA⟩ : ∃ wA, wA = ((w'.setCell ⟨d, 2, none⟩ (.slice (some ⟨g, 0, none⟩) N N)).drewN nq) := ⟨_, rfl⟩
        rw [← hwA] at HTG ⊢
        have HTA := HTG
        have HPC := Lib.hid (put_new_any HTA.out.at' k v HK.out (by rw [HEA.out]; exact HN.out))
        clear hg hwA hta hbe hrun hmk c1 c2 c4 hf2 cw hfw hmul hdec HTG
        go_wp2_with fail
        refine HPC.out.mono ?_
        rintro e w5 ⟨rfl, ps', hp1, hD5, hF5⟩
        have hp : s1.n = s1.n := rfl
        have c5 : w5.cell? ⟨d, 4, none⟩ = some (.int .i64 (s1.n : Int)) := by rw [Lib.cell_of_heap hD5.top]; simp [St.cells, withT_n, St.grown]
        have hf5 : w5.frozen? ⟨d, 4, none⟩ = false := Lib.frozen_of_heap hD5.top _
        obtain ⟨M, hM⟩ : ∃ M, M = s1.n + 1 := ⟨_, rfl⟩
        have had : IntKind.i64.wrap ((s1.n : Int) + 1) = (M : Int) := by have := HN1.out; rw [IntKind.wrap_i64]; omega
        have HEND : Hid (Trn w (w5.setCell ⟨d, 4, none⟩ (.int .i64 (M : Int))) d s { St.withT (s1.grown g N) ps' with n := St.n (s1.grown g N) + 1 } ∧ (St.withT (s1.grown g N) ps').ents.Perm ((k, v) :: s1.ents) ∧ St.shape { St.withT (s1.grown g N) ps' with n := St.n (s1.grown g N) + 1 } = setS true s.n (stepS1 s.shape)) := Lib.hid (by
          have hnw : ∀ y ∈ St.ents (s1.grown g N), y.1 ≠ k := by rw [HEA.out]; exact HN.out
          have h1 := HTA.out.trans (Trn.put HTA.out.inv hnw HK.out hp1 hD5 hF5)
          have h2 := (put_inv HTA.out.inv hnw HK.out hp1).2
          rw [HEA.out] at h2
          have e3 : ((St.n (s1.grown g N) + 1 : Nat) : Int) = (M : Int) := by subst hM; rfl
          rw [e3] at h1
          refine ⟨h1, h2, (withT_shape (put_flat hp1).2 _).trans ?_⟩
          rw [← HSH.out, ← HNE.out]
          simp [St.shape, St.grown, H1.out, setS, HQ.out, HNL.out])
        clear hp1 hD5 hF5 hM hp
        go_wp2_with fail
        go_ret
        exact ⟨_, HEND.out.1, .inr ⟨rfl, fun y hy => HN.out y ((HP.out.mem_iff).2 hy), HEND.out.2.1.trans (HP.out.cons _)⟩, fun b e => (by cases e; exact HEND.out.2.2)⟩
      · have hdec : ((s1.n : Int) == (s1.p0.length : Int)) = false := by rw [beq_eq_false_iff_ne]; omega
        have HQ2 := Lib.hid hq
        clear hq
        go_wp2_with fail
        refine HMV.out.mono ?_
        rintro e w3 ⟨rfl, rfl⟩
        clear HMV
        go_wp2_with fail
        have HTA := HT2
        have HPC := Lib.hid (put_new_any HTA.out.at' k v HK.out HN.out)
        clear c1 c2 c4 hf2 hdec
        refine HPC.out.mono ?_
        rintro e w5 ⟨rfl, ps', hp1, hD5, hF5⟩
        have hp : s1.n = s1.n := rfl
        have c5 : w5.cell? ⟨d, 4, none⟩ = some (.int .i64 (s1.n : Int)) := by rw [Lib.cell_of_heap hD5.top]; simp [St.cells, withT_n]
        have hf5 : w5.frozen? ⟨d, 4, none⟩ = false := Lib.frozen_of_heap hD5.top _
        obtain ⟨M, hM⟩ : ∃ M, M = s1.n + 1 := ⟨_, rfl⟩
        have had : IntKind.i64.wrap ((s1.n : Int) + 1) = (M : Int) := by have := HN1.out; rw [IntKind.wrap_i64]; omega
        have HEND : Hid (Trn w (w5.setCell ⟨d, 4, none⟩ (.int .i64 (M : Int))) d s { St.withT s1 ps' with n := St.n s1 + 1 } ∧ (St.withT s1 ps').ents.Perm ((k, v) :: s1.ents) ∧ St.shape { St.withT s1 ps' with n := St.n s1 + 1 } = setS true s.n (stepS1 s.shape)) := Lib.hid (by
          have hnw : ∀ y ∈ St.ents s1, y.1 ≠ k := by  exact HN.out
          have h1 := HTA.out.trans (Trn.put HTA.out.inv hnw HK.out hp1 hD5 hF5)
          have h2 := (put_inv HTA.out.inv hnw HK.out hp1).2
          skip
          have e3 : ((St.n s1 + 1 : Nat) : Int) = (M : Int) := by subst hM; rfl
          rw [e3] at h1
          refine ⟨h1, h2, (withT_shape (put_flat hp1).2 _).trans ?_⟩
          rw [← HSH.out, ← HNE.out]
          simp [St.shape, H1.out, setS, HQ2.out])
        clear hp1 hD5 hF5 hM hp
        go_wp2_with fail
        go_ret
        exact ⟨_, HEND.out.1, .inr ⟨rfl, fun y hy => HN.out y ((HP.out.mem_iff).2 hy), HEND.out.2.1.trans (HP.out.cons _)⟩, fun b e => (by cases e; exact HEND.out.2.2)⟩
    · have H1 := Lib.hid ht
      rw [ht] at HMV
      clear ht
      go_wp2_with fail
      refine HMV.out.mono ?_
      rintro e w3 ⟨rfl, rfl⟩
      clear HMV
      go_wp2_with fail
      have HTA := HT2
      have HPC := Lib.hid (put_new_any HTA.out.at' k v HK.out HN.out)
      clear c1 c4
      refine HPC.out.mono ?_
      rintro e w5 ⟨rfl, ps', hp1, hD5, hF5⟩
      have hp : s1.n = s1.n := rfl
      have c5 : w5.cell? ⟨d, 4, none⟩ = some (.int .i64 (s1.n : Int)) := by rw [Lib.cell_of_heap hD5.top]; simp [St.cells, withT_n]
      have hf5 : w5.frozen? ⟨d, 4, none⟩ = false := Lib.frozen_of_heap hD5.top _
      obtain ⟨M, hM⟩ : ∃ M, M = s1.n + 1 := ⟨_, rfl⟩
      have had : IntKind.i64.wrap ((s1.n : Int) + 1) = (M : Int) := by have := HN1.out; rw [IntKind.wrap_i64]; omega
      have HEND : Hid (Trn w (w5.setCell ⟨d, 4, none⟩ (.int .i64 (M : Int))) d s { St.withT s1 ps' with n := St.n s1 + 1 } ∧ (St.withT s1 ps').ents.Perm ((k, v) :: s1.ents) ∧ St.shape { St.withT s1 ps' with n := St.n s1 + 1 } = setS true s.n (stepS1 s.shape)) := Lib.hid (by
        have hnw : ∀ y ∈ St.ents s1, y.1 ≠ k := by  exact HN.out
        have h1 := HTA.out.trans (Trn.put HTA.out.inv hnw HK.out hp1 hD5 hF5)
        have h2 := (put_inv HTA.out.inv hnw HK.out hp1).2
        skip
        have e3 : ((St.n s1 + 1 : Nat) : Int) = (M : Int) := by subst hM; rfl
        rw [e3] at h1
        refine ⟨h1, h2, (withT_shape (put_flat hp1).2 _).trans ?_⟩
        rw [← HSH.out, ← HNE.out]
        simp [St.shape, H1.out, setS])
      clear hp1 hD5 hF5 hM hp
      go_wp2_with fail
      go_ret
      exact ⟨_, HEND.out.1, .inr ⟨rfl, fun y hy => HN.out y ((HP.out.mem_iff).2 hy), HEND.out.2.1.trans (HP.out.cons _)⟩, fun b e => (by cases e; exact HEND.out.2.2)⟩
end Go.Proofs.YtnoalklbgncajaaDoor.Dct
