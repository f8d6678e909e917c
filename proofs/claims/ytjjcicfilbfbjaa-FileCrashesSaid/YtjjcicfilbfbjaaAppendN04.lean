/- Append, to a file that is not there yet. -/
import Derived.Test.YtjjcicfilbfbjaaAppend04
namespace Go.Proofs.Ytjjcicfilbfbjaa.Dsk
open Go.RowKit Go.Proofs.Ytjjcicfilbfbjaa.Pin Go.Proofs.Ytjjcicfilbfbjaa.Gon Go.Proofs.Ytjjcicfilbfbjaa.Mps

theorem owns_push (g M N : Nat) (fs : List Fil) (f : Fil) : owns g M N (fs ++ [f]) = owns g M N fs ++ f.own := by simp [owns]
theorem DiskAt.push {w w' : World} {g M N : Nat} {C U n U' n' : Int} {fs : List Fil} {f : Fil} (h : DiskAt w g M N C U n fs) (hcb : w.heap.size ≤ f.cb) (hrow : ∀ r, f.sl.ownBlock = some r → w.heap.size ≤ r ∧ r ≠ f.cb)
    (hg : w'.heap[g]? = some (.cells #[.int .i64 C, .int .i64 U', .map (some M), wrV N, cnV N] 58 (0, 0))) (hN : w'.heap[N]? = some (.cells #[.int .i64 n'] 3 (0, 0)))
    (hM : MapAt w' M (ents fs ++ [(f.name, .pointer (some ⟨f.cb, 0, none⟩))])) (hf : FileAt w' f) (ho : ∀ r, r < w.heap.size → r ≠ g → r ≠ N → r ≠ M → w'.heap[r]? = w.heap[r]?) : DiskAt w' g M N C U' n' (fs ++ [f]) := by
  have hlt := h.lt
  have hap := h.apart
  have hap' := hap
  simp only [owns, List.nodup_cons, List.mem_cons, not_or] at hap'
  obtain ⟨⟨hgM, hgN, hga⟩, ⟨hMN, hMa⟩, hNa, _⟩ := hap'
  refine ⟨hg, hN, by simpa [ents] using hM, ?_, ?_⟩
  · intro x hx
    rcases List.mem_append.1 hx with hx | hx
    · refine (h.files x hx).same (fun r hr => ?_)
      have hm : r ∈ fs.flatMap Fil.own := List.mem_flatMap.2 ⟨x, hx, hr⟩
      exact ho r (hlt r (by simp only [owns, List.mem_cons]; exact .inr (.inr (.inr hm)))) (fun e => hga (e ▸ hm)) (fun e => hNa (e ▸ hm)) (fun e => hMa (e ▸ hm))
    · obtain rfl := List.mem_singleton.1 hx
      exact hf
  · rw [owns_push, List.nodup_append]
    refine ⟨hap, ?_, fun a ha b hb e => ?_⟩
    · unfold Fil.own
      cases hq : f.sl.ownBlock with
      | none => simp
      | some r =>
        have := (hrow r hq).2
        simp only [Option.toList_some, List.nodup_cons, List.mem_singleton, List.not_mem_nil, not_false_eq_true, List.nodup_nil, and_true]
        exact fun e => this e.symm
    · have h1 := hlt a ha
      simp only [Fil.own, List.mem_cons, Option.mem_toList] at hb
      rcases hb with hb | hb
      · omega
      · have := (hrow b hb).1
        omega
theorem wpList_put_new {ops : Array Oper} {rest : List Oper} {o : Oper} {a : Act} {Q : Exit → Act → World → Prop} (w : World) (hgd : o.guard = none) (m x v : Operand) (hop : o.op = Op.mapUpdate 56 m x v) (M : Nat) (ps : List (ByteArray × Value)) (nm : ByteArray) (val : Value)
    (hm : a.eval m = .map (some M)) (hx : a.eval x = .string nm) (hv : a.eval v = val) (h : MapAt w M ps) (hn : seek nm ps 0 = none)
    (hK : ∀ w', MapAt w' M (ps ++ [(nm, val)]) → OnlyMap w w' M → wpList Try.prog ops Q rest (a.put o.dst undef) w') : wpList Try.prog ops Q (o :: rest) a w := by
  refine wpList_plain hgd fun K' hK' => ?_
  obtain ⟨w', hrun, r1, r2⟩ := put_new (P := Try.prog) Try.underlying56 Try.underlying9 h nm val hn
  unfold Oper.wp
  simp [execOp, hop, hm, hx, hv, hrun, Result.andThen]
  exact hK' _ _ (hK w' r1 r2)

set_option maxHeartbeats 2000000 in
set_option maxRecDepth 100000 in
theorem append_new (g M N : Nat) (C U n : Int) (fs : List Fil) (nm s : ByteArray) (w : World) (h : DiskAt w g M N C U n fs) (hd : ∀ f ∈ fs, f.name ≠ nm)
    (h1 : 0 < nm.size) (h2 : nm.size ≤ 255) (hn : ¬ n = 0) (h64 : n < 9223372036854775808) (hU : 0 ≤ U) (hC : C ≤ 1073741824) (hs : U + s.size ≤ C) :
    Calls Try.prog 9 #[.pointer (some ⟨g, 0, none⟩), .string nm, .string s] w fun e w' => e = .returned (.int .i64 0) ∧
      ∃ cb v, DiskAt w' g M N C (U + s.size) (nextn n) (fs ++ [⟨nm, cb, v, s, 0⟩]) ∧ Turned (owns g M N fs) (owns g M N (fs ++ [⟨nm, cb, v, s, 0⟩])) w w' := by
  have H := Lib.hid h
  have hlt := h.lt
  have hap := h.apart
  obtain ⟨c0, c1, c2, c3, c4⟩ := h.gcell
  simp only [owns, List.nodup_cons, List.mem_cons, not_or] at hap
  obtain ⟨⟨hgM, hgN, _⟩, ⟨hMN, _⟩, _, _⟩ := hap
  have hgl : g < w.heap.size := hlt g (by simp [owns])
  have hMl : M < w.heap.size := hlt M (by simp [owns])
  have hNl : N < w.heap.size := hlt N (by simp [owns])
  have HT := Lib.hid (there_any g M w c2)
  have HM := Lib.hid (may_yes nm w h1 h2)
  have HC := Lib.hid (can_yes N n w h.count hn)
  have HW := Lib.hid (fun nq => write_yes N n (w.drewN nq) h.count hn h64)
  have HS := Lib.hid (seek_none (i := 0) hd)
  have HL := Lib.hid (fun w (hm : MapAt w M (ents fs)) => by
    have := look_ok (w := w) (P := Try.prog) Try.underlying56 Try.underlying9 (zero_content w) hm nm
    rw [HS.out] at this
    exact this)
  have HNE := Lib.hid (show g ≠ N ∧ M ≠ N ∧ g ≠ M from ⟨hgN, hMN, hgM⟩)
  have hfit : ¬ (C - U < (s.size : Int)) := by omega
  have hw0 : IntKind.i64.wrap (C - U) = C - U := by rw [IntKind.wrap_i64]; omega
  have hw1 : IntKind.i64.wrap (U + (s.size : Int)) = U + (s.size : Int) := by rw [IntKind.wrap_i64]; omega
  clear h hlt hgM hgN hMN hd h1 h2 hn
  go_enter Try.func9, Try.ntmps9
  go_wp2_with fail
  refine HT.out.mono ?_
  rintro e w' ⟨rfl, rfl⟩
  go_wp2_with fail
  refine HM.out.mono ?_
  rintro e w' ⟨rfl, rfl⟩
  go_wp2_with fail
  refine HC.out.mono ?_
  rintro e w' ⟨rfl, rfl⟩
  go_wp2_with fail
  refine wp_region_q [0,0,0,0,0,1,0,0,0,1,0,0,0] (by kernel_rfl) (by kernel_rfl) ?_
  (refine q_pure_n rfl (fun K hK => ?_); go_simp; refine hK _ _ ?_; clear hK K)
  (refine q_pure_n rfl (fun K hK => ?_); go_simp; refine hK _ _ ?_; clear hK K)
  (refine q_pure_n rfl (fun K hK => ?_); go_simp; refine hK _ _ ?_; clear hK K)
  (refine q_pure_n rfl (fun K hK => ?_); go_simp; refine hK _ _ ?_; clear hK K)
  (refine q_pure_n rfl (fun K hK => ?_); go_simp; refine hK _ _ ?_; clear hK K)
  (refine q_read_n rfl (fun K hK => ?_); go_simp; refine hK _ _ ?_; clear hK K)
  (refine q_pure_n rfl (fun K hK => ?_); go_simp; refine hK _ _ ?_; clear hK K)
  (refine q_pure_n rfl (fun K hK => ?_); go_simp; refine hK _ _ ?_; clear hK K)
  (refine q_pure_n rfl (fun K hK => ?_); go_simp; refine hK _ _ ?_; clear hK K)
  (refine q_read_n rfl (fun K hK => ?_); go_simp; refine hK _ _ ?_; clear hK K)
  (refine q_pure_n rfl (fun K hK => ?_); go_simp; refine hK _ _ ?_; clear hK K)
  (refine q_pure_n rfl (fun K hK => ?_); go_simp; refine hK _ _ ?_; clear hK K)
  (refine q_pure_n rfl (fun K hK => ?_); go_simp; refine hK _ _ ?_; clear hK K)
  refine q_nil ?_
  intro nq
  go_wp2_with fail
  refine (HW.out nq).mono ?_
  rintro e w1 ⟨rfl, hN1, ho1⟩
  have hbl : ∀ r, r ≠ N → w1.heap[r]? = w.heap[r]? := fun r hr => ho1.2.2.2.2 r hr
  have hz1 : w1.heap.size = w.heap.size := ho1.2.2.2.1
  have hM1 : MapAt w1 M (ents fs) := H.out.map.same (hbl M HNE.out.2.1)
  have hl1 := HL.out w1 hM1
  have hg1 := (hbl g HNE.out.1).trans H.out.disk
  have c2' : w1.cell? ⟨g, 2, none⟩ = some (.map (some M)) := by rw [Lib.cell_of_heap hg1]; rfl
  have hgl1 : g < w1.heap.size := by rw [hz1]; exact hgl
  have HM1 : Hid (MapAt (w1.alloc (.cells #[.slice none 0 0, .int .i64 0] 66)) M (ents fs)) := Lib.hid (hM1.same (Lib.alloc_old w1 _ _ (by rw [hz1]; exact hMl)))
  have HBL := Lib.hid hbl
  have HZ := Lib.hid hz1
  have HG1 := Lib.hid hg1
  have HN1 := Lib.hid hN1
  have HO1 := Lib.hid ho1
  clear hbl hz1 hM1 hg1 hN1 ho1 c0 c1 c2 c3 c4
  go_wp2_with (at_mapUpdate; refine wpList_put_new _ rfl _ _ _ rfl M (ents fs) nm (.pointer (some ⟨w1.heap.size, 0, none⟩)) rfl rfl rfl HM1.out HS.out ?_)
  intro w2 hM2 ho2
  have hz2 : w2.heap.size = w1.heap.size + 1 := by rw [ho2.2.2.2.1]; simp
  have hb2 : ∀ r, r < w1.heap.size → r ≠ M → w2.heap[r]? = w1.heap[r]? := fun r hr hm => (ho2.2.2.2.2 r hm).trans (Lib.alloc_old w1 _ _ hr)
  have hMl1 : M < w1.heap.size := by rw [HZ.out]; exact hMl
  have hc2 : w2.heap[w1.heap.size]? = some (.cells #[.slice none 0 0, .int .i64 0] 66 (0, 0)) := (ho2.2.2.2.2 _ (by omega)).trans (heap_alloc_last w1 _)
  have d0' : w2.cell? ⟨w1.heap.size, 0, none⟩ = some (.slice none 0 0) := by rw [Lib.cell_of_heap hc2]; rfl
  have HM2 := Lib.hid hM2
  have HO2 := Lib.hid ho2
  have HZ2 := Lib.hid hz2
  have HB2 := Lib.hid hb2
  have HC2 := Lib.hid hc2
  clear hM2 ho2 hb2 hc2 hl1 c2'
  go_wp2_with (at_builtin; refine wpList_append_str _ rfl _ _ rfl (.slice none 0 0) 0 [] rfl (World.ownsRow_nil _ _ _ _) s rfl ?c1 ?_)
  case c1 => omega
  intro v w3 hown3 hgrow3 hrow
  obtain ⟨vp, vl, vc, rfl⟩ := own_slice hown3
  have hl3 := hgrow3.size
  have hg3 := (hgrow3.block g (by omega) (by simp [Value.ownBlock])).trans ((HB2.out g hgl1 HNE.out.2.2).trans HG1.out)
  have hc3 := (hgrow3.block w1.heap.size (by omega) (by simp [Value.ownBlock])).trans HC2.out
  have hN3 := (hgrow3.block N (by have := HZ.out; omega) (by simp [Value.ownBlock])).trans ((HB2.out N (by have := HZ.out; omega) (fun e => HNE.out.2.1 e.symm)).trans HN1.out)
  have hM3 : MapAt w3 M (ents fs ++ [(nm, .pointer (some ⟨w1.heap.size, 0, none⟩))]) := HM2.out.same (hgrow3.block M (by omega) (by simp [Value.ownBlock]))
  have hrow3 : ∀ r, (Value.slice vp vl vc).ownBlock = some r → w1.heap.size + 1 ≤ r := by
    intro r hr
    rcases hrow r hr with h | h
    · cases h
    · omega
  have c1'' : w3.cell? ⟨g, 1, none⟩ = some (.int .i64 U) := by rw [Lib.cell_of_heap hg3]; rfl
  have f1'' : w3.frozen? ⟨g, 1, none⟩ = false := by simp [World.frozen?, hg3]
  have d0'' : w3.cell? ⟨w1.heap.size, 0, none⟩ = some (.slice none 0 0) := by rw [Lib.cell_of_heap hc3]; rfl
  have e0'' : w3.frozen? ⟨w1.heap.size, 0, none⟩ = false := by simp [World.frozen?, hc3]
  have hne : ¬ w1.heap.size = g := by omega
  have hne' : ¬ g = w1.heap.size := by omega
  have HOWN3 := Lib.hid hown3
  have HGR3 := Lib.hid hgrow3
  have HROW := Lib.hid hrow3
  have HG3 := Lib.hid hg3
  have HC3 := Lib.hid hc3
  have HN3 := Lib.hid hN3
  have HM3 := Lib.hid hM3
  have HL3 := Lib.hid hl3
  clear hown3 hgrow3 hrow hrow3 hg3 hc3 hN3 hM3 hl3 d0'
  have hz2h := Lib.hid hz2
  clear hz2
  go_wp2_with fail
  go_ret
  have hgF : ((w3.setCell ⟨w1.heap.size, 0, none⟩ (.slice vp vl vc)).setCell ⟨g, 1, none⟩ (.int .i64 (U + (s.size : Int)))).heap[g]? = some (.cells #[.int .i64 C, .int .i64 (U + (s.size : Int)), .map (some M), wrV N, cnV N] 58 (0, 0)) := by
    rw [heap_setCell_same _ g 1 _ _ _ ((Below.heap_setCell _ _ _ _ (fun e => hne' e)).trans HG3.out)]
    rfl
  have hcF : ((w3.setCell ⟨w1.heap.size, 0, none⟩ (.slice vp vl vc)).setCell ⟨g, 1, none⟩ (.int .i64 (U + (s.size : Int)))).heap[w1.heap.size]? = some (.cells #[.slice vp vl vc, .int .i64 0] 66 (0, 0)) := by
    rw [Below.heap_setCell _ _ _ _ (fun e => hne e), heap_setCell_same _ w1.heap.size 0 _ _ _ HC3.out]
    rfl
  have hoF : ∀ r, r ≠ w1.heap.size → r ≠ g → ((w3.setCell ⟨w1.heap.size, 0, none⟩ (.slice vp vl vc)).setCell ⟨g, 1, none⟩ (.int .i64 (U + (s.size : Int)))).heap[r]? = w3.heap[r]? := fun r h1 h2 => by
    rw [Below.heap_setCell _ _ _ _ h2, Below.heap_setCell _ _ _ _ h1]
  have hoW : ∀ r, r < w.heap.size → r ≠ g → r ≠ N → r ≠ M → ((w3.setCell ⟨w1.heap.size, 0, none⟩ (.slice vp vl vc)).setCell ⟨g, 1, none⟩ (.int .i64 (U + (s.size : Int)))).heap[r]? = w.heap[r]? := fun r hr h1 h2 h3 => by
    have hz := HZ.out
    have hz2 := hz2h.out
    rw [hoF r (by omega) h1, HGR3.out.block r (by omega) (by simp [Value.ownBlock]), HB2.out r (by omega) h3]
    exact HBL.out r h2
  have hownF : ((w3.setCell ⟨w1.heap.size, 0, none⟩ (.slice vp vl vc)).setCell ⟨g, 1, none⟩ (.int .i64 (U + (s.size : Int)))).ownsRow 0 5 1 (.slice vp vl vc) s.size (Lib.strCells s) := by
    refine ownsRow_same HOWN3.out (fun k hk => hoF k (fun e => ?_) (fun e => ?_))
    · have := HROW.out k hk
      omega
    · have := HROW.out k hk
      omega
  refine ⟨rfl, w1.heap.size, .slice vp vl vc, ?_, ?_⟩
  · refine H.out.push (f := ⟨nm, w1.heap.size, .slice vp vl vc, s, 0⟩) (by show w.heap.size ≤ w1.heap.size; rw [HZ.out]; exact Nat.le_refl _) (fun r hr => ?_) hgF ((hoF N (by have := HZ.out; omega) (fun e => HNE.out.1 e.symm)).trans HN3.out) (HM3.out.same (hoF M (by omega) (fun e => HNE.out.2.2 e.symm))) ⟨hcF, hownF⟩ hoW
    have h1 := HROW.out r hr
    have h2 := HZ.out
    exact ⟨by omega, by show r ≠ w1.heap.size; omega⟩
  · refine ⟨HGR3.out.os.trans (HO2.out.1.trans HO1.out.1), HGR3.out.tape.trans (HO2.out.2.1.trans HO1.out.2.1), HGR3.out.output.trans (HO2.out.2.2.1.trans HO1.out.2.2.1), ?_, fun r hr hnr => ?_, fun r hr => ?_⟩
    · have h1 := HL3.out
      have h2 := HZ.out
      have h3 := hz2h.out
      simp [World.setCell]
      omega
    · simp only [owns, List.mem_cons, not_or] at hnr
      exact hoW r hr hnr.1 hnr.2.2.1 hnr.2.1
    · rw [owns_push] at hr
      rcases List.mem_append.1 hr with hr | hr
      · exact .inl hr
      · have h2 := HZ.out
        simp only [Fil.own, List.mem_cons, Option.mem_toList] at hr
        rcases hr with hr | hr
        · exact .inr (by omega)
        · have := HROW.out r hr
          exact .inr (by omega)
end Go.Proofs.Ytjjcicfilbfbjaa.Dsk
