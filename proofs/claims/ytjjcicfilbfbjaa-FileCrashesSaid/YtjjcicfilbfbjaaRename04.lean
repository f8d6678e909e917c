/- Rename, onto a file that is there. -/
import Derived.Test.YtjjcicfilbfbjaaCrash04
import Derived.Maps.OwnSet
namespace Go.Proofs.Ytjjcicfilbfbjaa.Dsk
open Go.RowKit Go.Maps Go.Sort Go.Proofs.Ytjjcicfilbfbjaa.Pin Go.Proofs.Ytjjcicfilbfbjaa.Gon Go.Proofs.Ytjjcicfilbfbjaa.Mps

theorem wpList_del {ops : Array Oper} {rest : List Oper} {o : Oper} {a : Act} {Q : Exit → Act → World → Prop} (w : World) (hgd : o.guard = none) (m x : Operand) (hop : o.op = Op.call { callee := Callee.builtin Builtin.delete, args := #[m, x], argTypes := #[56, 9] }) (M : Nat) (ps : List (ByteArray × Value)) (nm : ByteArray)
    (hm : a.eval m = .map (some M)) (hx : a.eval x = .string nm) (h : MapAt w M ps) {i : Nat} {v : Value} (hn : seek nm ps 0 = some (i, v))
    (hK : ∀ w', MapAt w' M (without nm ps) → OnlyMap w w' M → wpList Try.prog ops Q rest (a.put o.dst (.tuple #[])) w') : wpList Try.prog ops Q (o :: rest) a w := by
  refine wpList_plain hgd fun K' hK' => ?_
  obtain ⟨w', hrun, r1, r2⟩ := Mps.del (P := Try.prog) Try.underlying56 Try.underlying9 h nm o.type hn
  unfold Oper.wp
  simp [execOp, hop, resolve, invoke, builtin, hm, hx, hrun, Result.andThen]
  exact hK' _ _ (hK w' r1 r2)
theorem without_split {nm : ByteArray} : ∀ {la lb : List Fil} {x : Fil}, x.name = nm → ((la ++ x :: lb).map (·.name)).Nodup → without nm (ents (la ++ x :: lb)) = ents (la ++ lb)
  | [], lb, x, hx, _ => by
    show (if (nm == x.name) = true then ents lb else _) = ents lb
    rw [if_pos ((MapKept.bytes_beq _ _).2 hx.symm)]
  | y :: la, lb, x, hx, hd => by
    simp only [List.cons_append, List.map_cons, List.nodup_cons] at hd
    have hne : ¬ (nm == y.name) = true := fun e => by
      have h1 := (MapKept.bytes_beq _ _).1 e
      exact hd.1 (List.mem_map.2 ⟨x, by simp, by rw [hx, h1]⟩)
    show (if (nm == y.name) = true then _ else (y.name, _) :: without nm (ents (la ++ x :: lb))) = (y.name, _) :: ents (la ++ lb)
    rw [if_neg hne, without_split hx hd.2]
/-- the same files' blocks, fewer of them or under other names -/
theorem DiskAt.remap {w w' : World} {g M N : Nat} {C U U' n : Int} {fs fs' : List Fil} (h : DiskAt w g M N C U n fs) (hg : w'.heap[g]? = some (.cells #[.int .i64 C, .int .i64 U', .map (some M), wrV N, cnV N] 58 (0, 0)))
    (hM : MapAt w' M (ents fs')) (ho : ∀ r, r ≠ g → r ≠ M → w'.heap[r]? = w.heap[r]?) (hf : ∀ f' ∈ fs', ∃ f ∈ fs, f.cb = f'.cb ∧ f.sl = f'.sl ∧ f.bytes = f'.bytes ∧ f.dur = f'.dur) (hn : (owns g M N fs').Nodup) : DiskAt w' g M N C U' n fs' := by
  have hap := h.apart
  simp only [owns, List.nodup_cons, List.mem_cons, not_or] at hap
  obtain ⟨⟨hgM, hgN, hga⟩, ⟨hMN, hMa⟩, hNa, _⟩ := hap
  refine ⟨hg, (ho N (fun e => hgN e.symm) (fun e => hMN e.symm)).trans h.count, hM, fun f' hf' => ?_, hn⟩
  obtain ⟨f, hfm, e1, e2, e3, e4⟩ := hf f' hf'
  have hF := (h.files f hfm).same (w' := w') (fun r hr => by
    have hm : r ∈ fs.flatMap Fil.own := List.mem_flatMap.2 ⟨f, hfm, hr⟩
    exact ho r (fun e => hga (e ▸ hm)) (fun e => hMa (e ▸ hm)))
  unfold FileAt at hF ⊢
  rw [← e1, ← e2, ← e3, ← e4]
  exact hF
theorem owns_sub (g M N : Nat) (la : List Fil) (x : Fil) (lb : List Fil) : (owns g M N (la ++ lb)).Sublist (owns g M N (la ++ x :: lb)) := by
  unfold owns
  refine ((List.Sublist.cons_cons N ?_).cons_cons M).cons_cons g
  rw [List.flatMap_append, List.flatMap_append, List.flatMap_cons]
  exact (List.Sublist.refl _).append (List.sublist_append_right _ _)
set_option maxHeartbeats 1000000 in
set_option maxRecDepth 100000 in
theorem drop_yes (g M N : Nat) (C U n : Int) (la : List Fil) (x : Fil) (lb : List Fil) (w : World) (h : DiskAt w g M N C U n (la ++ x :: lb)) (hd : ((la ++ x :: lb).map (·.name)).Nodup) (hU : (x.bytes.size : Int) ≤ U) (hC : U ≤ 1073741824) :
    Calls Try.prog 30 #[.pointer (some ⟨g, 0, none⟩), .string x.name] w fun e w' => e = .returned (.tuple #[]) ∧ DiskAt w' g M N C (U - x.bytes.size) n (la ++ lb) ∧ Turned (owns g M N (la ++ x :: lb)) (owns g M N (la ++ lb)) w w' := by
  have H := Lib.hid h
  have hxm : x ∈ la ++ x :: lb := by simp
  obtain ⟨c0, c1, c2, c3, c4⟩ := h.gcell
  obtain ⟨j, hs⟩ := seek_some (i := 0) hxm rfl hd
  have hl' := Mps.look_ok (w := w) (P := Try.prog) Try.underlying56 Try.underlying9 (zero_content w) h.map x.name
  rw [hs] at hl'
  have HS := Lib.hid hs
  have HND := Lib.hid hd
  obtain ⟨fc, fo⟩ := h.files x hxm
  obtain ⟨p, c, hp⟩ := own_len fo
  have d0 : w.cell? ⟨x.cb, 0, none⟩ = some (.slice p x.bytes.size c) := by rw [Lib.cell_of_heap fc, hp]; rfl
  have y1 : w.frozen? ⟨g, 1, none⟩ = false := by simp [World.frozen?, h.disk]
  have hw0 : IntKind.i64.wrap (U - (x.bytes.size : Int)) = U - (x.bytes.size : Int) := by rw [IntKind.wrap_i64]; omega
  have hap := h.apart
  rw [owns_split, List.nodup_append, List.nodup_append] at hap
  have hgM : g ≠ M := by
    have := hap.1.1
    simp only [List.nodup_cons, List.mem_cons, not_or] at this
    exact this.1.1
  have HGM := Lib.hid hgM
  have HMW := Lib.hid (show MapAt (w.setCell ⟨g, 1, none⟩ (.int .i64 (U - (x.bytes.size : Int)))) M (ents (la ++ x :: lb)) from h.map.same (Below.heap_setCell _ _ _ _ (fun e => hgM e.symm)))
  have hgl : g < w.heap.size := h.lt g (by simp [owns])
  clear hs hd h hxm fc fo hp hap hgM c0 c3 c4
  go_enter Try.func30, Try.ntmps30
  go_wp2_with fail
  refine wp_region_q [0,0,0,1,0,0,0,1,0,0,0,0,2] (by kernel_rfl) (by kernel_rfl) ?_
  (refine q_pure_n rfl (fun K hK => ?_); go_simp; refine hK _ _ ?_; clear hK K)
  (refine q_pure_n rfl (fun K hK => ?_); go_simp; refine hK _ _ ?_; clear hK K)
  (refine q_pure_n rfl (fun K hK => ?_); go_simp; refine hK _ _ ?_; clear hK K)
  (refine q_read_n rfl (fun K hK => ?_); go_simp; refine hK _ _ ?_; clear hK K)
  (refine q_pure_n rfl (fun K hK => ?_); go_simp; refine hK _ _ ?_; clear hK K)
  (refine q_pure_n rfl (fun K hK => ?_); go_simp; refine hK _ _ ?_; clear hK K)
  (refine q_pure_n rfl (fun K hK => ?_); go_simp; refine hK _ _ ?_; clear hK K)
  (refine q_read_n rfl (fun K hK => ?_); go_simp; refine hK _ _ ?_; clear hK K)
  (refine q_pure_n rfl (fun K hK => ?_); go_simp; refine hK _ _ ?_; clear hK K)
  (refine q_pure_n rfl (fun K hK => ?_); go_simp; refine hK _ _ ?_; clear hK K)
  (refine q_pure_n rfl (fun K hK => ?_); go_simp; refine hK _ _ ?_; clear hK K)
  (refine q_pure_n rfl (fun K hK => ?_); go_simp; refine hK _ _ ?_; clear hK K)
  (refine q_write_n rfl (fun K hK => ?_); go_simp; refine fun nw => ⟨_, ⟨_, rfl⟩, hK _ _ ?_⟩; clear hK K)
  refine q_nil ?_
  intro nq
  go_wp2_with (at_delete; refine wpList_del _ rfl _ _ rfl M (ents (la ++ x :: lb)) x.name rfl rfl (HMW.out.same rfl) HS.out ?_)
  intro w2 hM2 ho2
  have HM2 := Lib.hid hM2
  have HO2 := Lib.hid ho2
  clear hM2 ho2
  go_wp2_with fail
  go_end0
  have hg2 : w2.heap[g]? = some (.cells #[.int .i64 C, .int .i64 (U - (x.bytes.size : Int)), .map (some M), wrV N, cnV N] 58 (0, 0)) := by
    rw [HO2.out.2.2.2.2 g HGM.out]
    show (w.setCell ⟨g, 1, none⟩ _).heap[g]? = _
    rw [heap_setCell_same _ g 1 _ _ _ H.out.disk]
    rfl
  have hoW : ∀ r, r ≠ g → r ≠ M → w2.heap[r]? = w.heap[r]? := fun r h1 h2 => by
    rw [HO2.out.2.2.2.2 r h2]
    exact Below.heap_setCell _ _ _ _ h1
  have hM2 := HM2.out
  rw [without_split rfl HND.out] at hM2
  refine ⟨rfl, H.out.remap hg2 hM2 hoW (fun f hf => ⟨f, ?_, rfl, rfl, rfl, rfl⟩) (H.out.apart.sublist (owns_sub g M N la x lb)), ?_⟩
  · simp only [List.mem_append, List.mem_cons] at hf ⊢
    rcases hf with h | h
    · exact .inl h
    · exact .inr (.inr h)
  · refine ⟨HO2.out.1, HO2.out.2.1, HO2.out.2.2.1, ?_, fun r hr hnr => ?_, fun r hr => .inl ((owns_sub g M N la x lb).subset hr)⟩
    · have := HO2.out.2.2.2.1
      rw [this]
      simp [World.setCell]
    · simp only [owns, List.mem_cons, not_or] at hnr
      exact hoW r hnr.1 hnr.2.1
theorem DiskAt.counted {w w' : World} {g M N : Nat} {C U n n' : Int} {fs : List Fil} (h : DiskAt w g M N C U n fs) (hN : w'.heap[N]? = some (.cells #[.int .i64 n'] 3 (0, 0))) (ho : OnlyMap w w' N) : DiskAt w' g M N C U n' fs ∧ Turned (owns g M N fs) (owns g M N fs) w w' := by
  have hap := h.apart
  simp only [owns, List.nodup_cons, List.mem_cons, not_or] at hap
  obtain ⟨⟨hgM, hgN, hga⟩, ⟨hMN, hMa⟩, hNa, _⟩ := hap
  refine ⟨⟨(ho.2.2.2.2 g hgN).trans h.disk, hN, h.map.same (ho.2.2.2.2 M hMN), fun f hf => (h.files f hf).same (fun r hr => ho.2.2.2.2 r (fun e => hNa (e ▸ List.mem_flatMap.2 ⟨f, hf, hr⟩))), h.apart⟩, ⟨ho.1, ho.2.1, ho.2.2.1, by rw [ho.2.2.2.1]; exact Nat.le_refl _, fun r _ hnr => ho.2.2.2.2 r (fun e => hnr (by simp [owns, e])), fun r hr => .inl hr⟩⟩
theorem byte_ne {a b : ByteArray} (h : a ≠ b) : (a.toList == b.toList) = false := by
  cases hq : (a.toList == b.toList) with
  | false => rfl
  | true =>
    have e := eq_of_beq hq
    rw [ByteArray.toList_eq, ByteArray.toList_eq] at e
    exact absurd (by
      have := Array.toList_inj.1 e
      cases a; cases b
      congr 1) h
set_option maxHeartbeats 1000000 in
set_option maxRecDepth 100000 in
theorem rename_yes (g M N : Nat) (C U n : Int) (la : List Fil) (x : Fil) (lb lc : List Fil) (f : Fil) (ld : List Fil) (w : World) (h : DiskAt w g M N C U n (la ++ x :: lb)) (hs : la ++ lb = lc ++ f :: ld) (hd : ((la ++ x :: lb).map (·.name)).Nodup) (hU : (x.bytes.size : Int) ≤ U) (hC : U ≤ 1073741824)
    (hn : ¬ n = 0) (h64 : n < 9223372036854775808) (h1 : 0 < x.name.size) (h2 : x.name.size ≤ 255) :
    Calls Try.prog 18 #[.pointer (some ⟨g, 0, none⟩), .string f.name, .string x.name] w fun e w' => e = .returned (.int .i64 0) ∧
      DiskAt w' g M N C (U - x.bytes.size) (nextn n) (lc ++ (ld ++ [{ f with name := x.name }])) ∧ Turned (owns g M N (la ++ x :: lb)) (owns g M N (lc ++ (ld ++ [{ f with name := x.name }]))) w w' := by
  have hfab : f ∈ la ++ lb := by rw [hs]; simp
  have hfm : f ∈ la ++ x :: lb := by
    simp only [List.mem_append, List.mem_cons] at hfab ⊢
    rcases hfab with h | h
    · exact .inl h
    · exact .inr (.inr h)
  have hd2 : ((la ++ lb).map (·.name)).Nodup := by
    refine List.Nodup.sublist ?_ hd
    exact ((List.Sublist.refl la).append (List.sublist_cons_self x lb)).map _
  have hxn : ∀ y ∈ la ++ lb, y.name ≠ x.name := by
    intro y hy e
    rw [List.map_append, List.map_cons, List.nodup_append] at hd
    obtain ⟨_, d2, d3⟩ := hd
    rw [List.nodup_cons] at d2
    rcases List.mem_append.1 hy with hy | hy
    · exact d3 y.name (List.mem_map.2 ⟨y, hy, rfl⟩) x.name (by simp) e
    · exact d2.1 (List.mem_map.2 ⟨y, hy, e⟩)
  have hne := byte_ne (hxn f hfab)
  have H := Lib.hid h
  have HF := Lib.hid (find_yes g M N C U n _ f w h hfm hd)
  have HM := Lib.hid (fun W => may_yes x.name W h1 h2)
  have HW := Lib.hid (fun (W : World) (hW : W.heap[N]? = some (.cells #[.int .i64 n] 3 (0, 0))) => write_yes N n W hW hn h64)
  have HND := Lib.hid hd
  have HND2 := Lib.hid hd2
  have HXN := Lib.hid hxn
  have HS := Lib.hid hs
  obtain ⟨c0, c1, c2, c3, c4⟩ := h.gcell
  clear h hfm hfab hd hd2 hxn hs hn c0 c1 c2 c4
  go_enter Try.func18, Try.ntmps18
  go_wp2_with fail
  refine HF.out.mono ?_
  rintro e w' ⟨rfl, rfl⟩
  go_wp2_with fail
  refine (HM.out _).mono ?_
  rintro e w' ⟨rfl, rfl⟩
  go_wp2_with fail
  refine (HW.out _ H.out.count).mono ?_
  rintro e w1 ⟨rfl, hN1, ho1⟩
  have HD1 := Lib.hid (H.out.counted hN1 ho1)
  clear hN1 ho1 c3
  go_wp2_with fail
  refine (drop_yes g M N C U (nextn n) la x lb w1 HD1.out.1 HND.out hU hC).mono ?_
  rintro e w2 ⟨rfl, hD2, hT2⟩
  have hD2' := hD2
  rw [HS.out] at hD2'
  have HD2 := Lib.hid hD2'
  have HT2 := Lib.hid hT2
  have hfi : f ∈ lc ++ f :: ld := by simp
  have hnd2 := HND2.out
  rw [HS.out] at hnd2
  obtain ⟨j, hsk⟩ := seek_some (i := 0) hfi rfl hnd2
  have HSK := Lib.hid hsk
  have HN2 := Lib.hid hnd2
  have c2 := HD2.out.gcell.2.2.1
  clear hD2 hD2' hT2 hfi hnd2 hsk
  go_wp2_with (at_delete; refine wpList_del _ rfl _ _ rfl M (ents (lc ++ f :: ld)) f.name rfl rfl (HD2.out.map) HSK.out ?_)
  intro w3 hM3 ho3
  rw [without_split rfl HN2.out] at hM3
  have hap := HD2.out.apart
  have hgM : g ≠ M := by
    simp only [owns, List.nodup_cons, List.mem_cons, not_or] at hap
    exact hap.1.1
  have hg3 := (ho3.2.2.2.2 g hgM).trans HD2.out.disk
  have c2' : w3.cell? ⟨g, 2, none⟩ = some (.map (some M)) := by rw [Lib.cell_of_heap hg3]; rfl
  have hxn3 : seek x.name (ents (lc ++ ld)) 0 = none := seek_none (fun y hy => HXN.out y (by
    rw [HS.out]
    simp only [List.mem_append, List.mem_cons] at hy ⊢
    rcases hy with h | h
    · exact .inl h
    · exact .inr (.inr h)))
  have HX3 := Lib.hid hxn3
  have HM3 := Lib.hid hM3
  have HO3 := Lib.hid ho3
  have HG3 := Lib.hid hg3
  have HGM := Lib.hid hgM
  clear hM3 ho3 hg3 hxn3 hgM hap c2
  go_wp2_with (at_mapUpdate; refine wpList_put_new _ rfl _ _ _ rfl M (ents (lc ++ ld)) x.name (.pointer (some ⟨f.cb, 0, none⟩)) rfl rfl rfl HM3.out HX3.out ?_)
  intro w4 hM4 ho4
  have HM4 := Lib.hid hM4
  have HO4 := Lib.hid ho4
  clear hM4 ho4
  go_wp2_with fail
  go_ret
  have hoW : ∀ r, r ≠ M → w4.heap[r]? = w2.heap[r]? := fun r h => (HO4.out.2.2.2.2 r h).trans (HO3.out.2.2.2.2 r h)
  have hM4 : MapAt w4 M (ents (lc ++ (ld ++ [{ f with name := x.name }]))) := by
    have := HM4.out
    have e : ents (lc ++ (ld ++ [{ f with name := x.name }])) = ents (lc ++ ld) ++ [(x.name, .pointer (some ⟨f.cb, 0, none⟩))] := by simp [ents]
    rw [e]
    exact this
  have hpm : (owns g M N (lc ++ (ld ++ [{ f with name := x.name }]))).Perm (owns g M N (lc ++ f :: ld)) := by
    unfold owns
    refine ((List.Perm.cons N ?_).cons M).cons g
    rw [List.flatMap_append, List.flatMap_append, List.flatMap_append]
    refine List.Perm.append_left _ ?_
    show (List.flatMap Fil.own ld ++ (f.own ++ [])).Perm (f.own ++ List.flatMap Fil.own ld)
    rw [List.append_nil]
    exact List.perm_append_comm
  refine ⟨rfl, HD2.out.remap ((hoW g HGM.out).trans HD2.out.disk) hM4 (fun r _ h => hoW r h) (fun y hy => ?_) (hpm.nodup_iff.2 HD2.out.apart), ?_⟩
  · simp only [List.mem_append, List.mem_singleton] at hy
    rcases hy with h | h | h
    · exact ⟨y, by simp [h], rfl, rfl, rfl, rfl⟩
    · exact ⟨y, by simp [h], rfl, rfl, rfl, rfl⟩
    · exact ⟨f, by simp, by rw [h], by rw [h], by rw [h], by rw [h]⟩
  · have t1 := HD1.out.2.trans HT2.out
    rw [HS.out] at t1
    refine t1.trans ⟨HO4.out.1.trans HO3.out.1, HO4.out.2.1.trans HO3.out.2.1, HO4.out.2.2.1.trans HO3.out.2.2.1, ?_, fun r _ hnr => hoW r (fun e => hnr (by simp [owns, e])), fun r hr => .inl (hpm.subset hr)⟩
    rw [HO4.out.2.2.2.1, HO3.out.2.2.2.1]
    exact Nat.le_refl _
end Go.Proofs.Ytjjcicfilbfbjaa.Dsk
