/- Append, to a file that is there. -/
import Derived.Test.YtjjcicfilbfbjaaDiskB04
namespace Go.Proofs.Ytjjcicfilbfbjaa.Dsk
open Go.RowKit Go.Proofs.Ytjjcicfilbfbjaa.Pin Go.Proofs.Ytjjcicfilbfbjaa.Gon Go.Proofs.Ytjjcicfilbfbjaa.Mps

theorem info_byte : (Try.prog.info? 5).map (fun i => (i.zero, i.size, i.bytes)) = some (some (.int .u8 0), 1, 1) := by kernel_rfl
theorem strCells_append (a b : ByteArray) : Lib.strCells a ++ Lib.strCells b = Lib.strCells (a ++ b) := by
  unfold Lib.strCells
  rw [← List.map_append]
  simp [ByteArray.data_append]
theorem size_append (a b : ByteArray) : (a ++ b).size = a.size + b.size := by simp
/-- a text's bytes behind a row: where the row lies behind it -/
theorem append_str (w : World) (v : Value) (n : Nat) (xs : List Value) (hown : w.ownsRow 0 5 1 v n xs) (s : ByteArray) (ty : TypeId) (hb : n + s.size ≤ 2147483648) :
    ∃ v' w', (Builtin.append_ #[64, 9] ty #[v, .string s]).run Try.prog w = .ok v' w' ∧ w'.ownsRow 0 5 1 v' (n + s.size) (xs ++ Lib.strCells s) ∧ w.grownBy w' v.ownBlock ∧ (∀ r, v'.ownBlock = some r → v.ownBlock = some r ∨ w.heap.size ≤ r) := by
  obtain ⟨i0, hi, hz0, hz1, hz2⟩ := info_parts info_byte
  obtain ⟨v', w', hr, h2, h3, h4⟩ := Lib.run_append_own_string (P := Try.prog) w 0 64 9 ty 5 i0 Try.underlying64 Try.underlying9 hi hz0 hz1 hz2 v n xs hown s (by unfold maxLen; omega) (by omega) (Nat.zero_le _)
  refine ⟨v', w', hr, h2, h3, ?_⟩
  have hxl : xs.length = n := by simpa using hown.1
  intro r hrr
  rcases hown.2 with ⟨rfl, rfl⟩ | ⟨g, cap, cur, rfl, hbg, hg, hnc, hcm, hcs, htake⟩
  · by_cases hm : s.size = 0
    · rw [h4.2 ⟨rfl, hm⟩] at hrr
      cases hrr
    · have hr2 := run_append_nil_string (P := Try.prog) w 64 9 ty 5 i0 (.int .u8 0) Try.underlying64 Try.underlying9 hi hz0 s (by omega) (by omega) (by rw [hz2]; omega)
      rw [hr2] at hr
      injection hr with e1 e2
      rw [← e1] at hrr
      have hwr : w.heap.size = r := by simpa [Value.ownBlock] using hrr
      exact .inr (by omega)
  · by_cases hroom : n + s.size ≤ cap
    · have hcs' : cur.size = cap := by simpa using hcs
      have hr2 := Lib.run_append_room_string (P := Try.prog) w 64 9 ty 5 i0 Try.underlying64 Try.underlying9 hi hz1 g n cap cur hg s hroom (by omega)
      rw [hr2] at hr
      injection hr with e1 e2
      rw [← e1] at hrr
      exact .inl hrr
    · have holds : ∀ j u, xs[j]? = some u → w.cell? ((⟨g, 0, none⟩ : Addr).add j) = some u := hown.cells (g := g) rfl
      have hr2 := Lib.run_append_grow_string (P := Try.prog) w 64 9 ty 5 i0 (.int .u8 0) Try.underlying64 Try.underlying9 hi hz0 ⟨g, 0, none⟩ n cap xs (by rw [hz1]; simpa using hxl) holds s (by omega) (by omega) (by rw [hz2]; exact growslice_fits (by omega) (by omega))
      rw [hr2] at hr
      injection hr with e1 e2
      rw [← e1] at hrr
      have hwr : w.heap.size = r := by simpa [Value.ownBlock] using hrr
      exact .inr (by omega)
theorem wpList_append_str {ops : Array Oper} {rest : List Oper} {o : Oper} {a : Act} {Q : Exit → Act → World → Prop} (w : World) (hgd : o.guard = none) (sl x : Operand)
    (ho : o.op = .call { callee := .builtin .append, args := #[sl, x], argTypes := #[64, 9] }) (v : Value) (n : Nat) (xs : List Value) (hs : a.eval sl = v) (hown : w.ownsRow 0 5 1 v n xs) (s : ByteArray) (hx : a.eval x = .string s) (hb : n + s.size ≤ 2147483648)
    (h : ∀ v' w', w'.ownsRow 0 5 1 v' (n + s.size) (xs ++ Lib.strCells s) → w.grownBy w' v.ownBlock → (∀ r, v'.ownBlock = some r → v.ownBlock = some r ∨ w.heap.size ≤ r) → wpList Try.prog ops Q rest (a.put o.dst v') w') : wpList Try.prog ops Q (o :: rest) a w := by
  refine wpList_plain hgd fun K hK => ?_
  obtain ⟨v', w', hr, h2, h3, h4⟩ := append_str w v n xs hown s o.type hb
  unfold Oper.wp execOp
  simp only [ho, resolve, invoke, builtin, Sem.run_bind, Sem.run_pure, Result.andThen_ok, List.map_toArray, List.map_cons, List.map_nil, hs, hx, hr]
  exact hK _ _ (h v' w' h2 h3 h4)
theorem own_slice {w : World} {b : Nat} {e : TypeId} {sz n : Nat} {v : Value} {xs : List Value} (h : w.ownsRow b e sz v n xs) : ∃ p l c, v = .slice p l c := by
  rcases h.2 with ⟨rfl, _⟩ | ⟨g, cap, cur, rfl, _⟩
  · exact ⟨_, _, _, rfl⟩
  · exact ⟨_, _, _, rfl⟩
/-- a file with more at its end -/
def Fil.add (f : Fil) (v : Value) (s : ByteArray) : Fil := { f with sl := v, bytes := f.bytes ++ s }

set_option maxHeartbeats 2000000 in
set_option maxRecDepth 100000 in
theorem append_old (g M N : Nat) (C U n : Int) (la : List Fil) (f : Fil) (lb : List Fil) (s : ByteArray) (w : World) (h : DiskAt w g M N C U n (la ++ f :: lb)) (hd : ((la ++ f :: lb).map (·.name)).Nodup)
    (h1 : 0 < f.name.size) (h2 : f.name.size ≤ 255) (hn : ¬ n = 0) (h64 : n < 9223372036854775808) (hU : 0 ≤ U) (hC : C ≤ 1073741824) (hs : U + s.size ≤ C) (hb : (f.bytes.size : Int) ≤ U) :
    Calls Try.prog 9 #[.pointer (some ⟨g, 0, none⟩), .string f.name, .string s] w fun e w' => e = .returned (.int .i64 0) ∧
      ∃ v, DiskAt w' g M N C (U + s.size) (nextn n) (la ++ f.add v s :: lb) ∧ Turned (owns g M N (la ++ f :: lb)) (owns g M N (la ++ f.add v s :: lb)) w w' := by
  have H := Lib.hid h
  have hlt := h.lt
  have hap := h.apart
  obtain ⟨c0, c1, c2, c3, c4⟩ := h.gcell
  have hfm : f ∈ la ++ f :: lb := by simp
  obtain ⟨fc, fo⟩ := h.files f hfm
  rw [owns_split] at hap hlt
  rw [List.nodup_append, List.nodup_append] at hap
  obtain ⟨⟨a1, a2, a3⟩, _, _⟩ := hap
  simp only [List.nodup_cons, List.mem_cons, not_or] at a1
  obtain ⟨⟨hgM, hgN, _⟩, ⟨hMN, _⟩, _, _⟩ := a1
  have hcbo : f.cb ∈ f.own := by simp [Fil.own]
  have hgf : g ∉ f.own := fun hf => a3 g (by simp) g hf rfl
  have hNf : N ∉ f.own := fun hf => a3 N (by simp) N hf rfl
  have hMf : M ∉ f.own := fun hf => a3 M (by simp) M hf rfl
  have hgl : g < w.heap.size := hlt g (by simp)
  have hcl : f.cb < w.heap.size := hlt f.cb (by simp [Fil.own])
  have hNl : N < w.heap.size := hlt N (by simp)
  have HT := Lib.hid (there_any g M w c2)
  have HM := Lib.hid (may_yes f.name w h1 h2)
  have HC := Lib.hid (can_yes N n w h.count hn)
  have HW := Lib.hid (fun nq => write_yes N n (w.drewN nq) h.count hn h64)
  obtain ⟨j, hsk⟩ := seek_some (i := 0) hfm rfl hd
  have HL := Lib.hid (fun w (hm : MapAt w M (ents (la ++ f :: lb))) => by
    have := look_ok (w := w) (P := Try.prog) Try.underlying56 Try.underlying9 (zero_content w) hm f.name
    rw [hsk] at this
    exact this)
  have HFO := Lib.hid fo
  have HFC := Lib.hid fc
  have HNE := Lib.hid (show g ≠ N ∧ M ≠ N ∧ f.cb ≠ N ∧ f.cb ≠ g from ⟨hgN, hMN, fun e => hNf (e ▸ hcbo), fun e => hgf (e ▸ hcbo)⟩)
  have HRN := Lib.hid (show (∀ r, f.sl.ownBlock = some r → r ≠ N ∧ r ≠ g ∧ r ≠ f.cb) from fun r hr => by
    have hm : r ∈ f.own := by simp [Fil.own, hr]
    refine ⟨fun e => hNf (e ▸ hm), fun e => hgf (e ▸ hm), fun e => ?_⟩
    unfold Fil.own at a2
    rw [hr] at a2
    simp at a2
    exact a2 e.symm)
  have hfit : ¬ (C - U < (s.size : Int)) := by omega
  have hw0 : IntKind.i64.wrap (C - U) = C - U := by rw [IntKind.wrap_i64]; omega
  have hw1 : IntKind.i64.wrap (U + (s.size : Int)) = U + (s.size : Int) := by rw [IntKind.wrap_i64]; omega
  obtain ⟨i0, hi, hz0, hz1, hz2⟩ := info_parts info_byte
  have HI := Lib.hid hi
  have HZ0 := Lib.hid hz0
  have HZ1 := Lib.hid hz1
  have HZ2 := Lib.hid hz2
  clear hi hz0 hz1 hz2 h hlt fc fo a2 a3 hgM hgN hMN hcbo hgf hNf hMf hsk hd h1 h2 hfm hn
  go_enter Try.func9, Try.ntmps9
  go_wp2_with fail
  refine HT.out.mono ?_
  rintro e w' ⟨rfl, rfl⟩
  go_wp2_with fail
  refine HM.out.mono ?_
  rintro e w' ⟨rfl, rfl⟩
  go_wp2_with fail
  refine HC.out.mono ?_
  rintro e w' ⟨rfl, rfl⟩
  go_wp2_with fail
  refine wp_region_q [0,0,0,0,0,1,0,0,0,1,0,0,0] (by kernel_rfl) (by kernel_rfl) ?_
  (refine q_pure_n rfl (fun K hK => ?_); go_simp; refine hK _ _ ?_; clear hK K)
  (refine q_pure_n rfl (fun K hK => ?_); go_simp; refine hK _ _ ?_; clear hK K)
  (refine q_pure_n rfl (fun K hK => ?_); go_simp; refine hK _ _ ?_; clear hK K)
  (refine q_pure_n rfl (fun K hK => ?_); go_simp; refine hK _ _ ?_; clear hK K)
  (refine q_pure_n rfl (fun K hK => ?_); go_simp; refine hK _ _ ?_; clear hK K)
  (refine q_read_n rfl (fun K hK => ?_); go_simp; refine hK _ _ ?_; clear hK K)
  (refine q_pure_n rfl (fun K hK => ?_); go_simp; refine hK _ _ ?_; clear hK K)
  (refine q_pure_n rfl (fun K hK => ?_); go_simp; refine hK _ _ ?_; clear hK K)
  (refine q_pure_n rfl (fun K hK => ?_); go_simp; refine hK _ _ ?_; clear hK K)
  (refine q_read_n rfl (fun K hK => ?_); go_simp; refine hK _ _ ?_; clear hK K)
  (refine q_pure_n rfl (fun K hK => ?_); go_simp; refine hK _ _ ?_; clear hK K)
  (refine q_pure_n rfl (fun K hK => ?_); go_simp; refine hK _ _ ?_; clear hK K)
  (refine q_pure_n rfl (fun K hK => ?_); go_simp; refine hK _ _ ?_; clear hK K)
  refine q_nil ?_
  intro nq
  go_wp2_with fail
  refine (HW.out nq).mono ?_
  rintro e w1 ⟨rfl, hN1, ho1⟩
  have hbl : ∀ r, r ≠ N → w1.heap[r]? = w.heap[r]? := fun r hr => ho1.2.2.2.2 r hr
  have hz1 : w1.heap.size = w.heap.size := ho1.2.2.2.1
  have hM1 : MapAt w1 M (ents (la ++ f :: lb)) := H.out.map.same (hbl M HNE.out.2.1)
  have hl1 := HL.out w1 hM1
  have hg1 := (hbl g HNE.out.1).trans H.out.disk
  have hc1 := (hbl f.cb HNE.out.2.2.1).trans HFC.out
  have FO1 := Lib.hid (ownsRow_same HFO.out (fun k hk => hbl k (HRN.out k hk).1))
  have c1' : w1.cell? ⟨g, 1, none⟩ = some (.int .i64 U) := by rw [Lib.cell_of_heap hg1]; rfl
  have c2' : w1.cell? ⟨g, 2, none⟩ = some (.map (some M)) := by rw [Lib.cell_of_heap hg1]; rfl
  have d0' : w1.cell? ⟨f.cb, 0, none⟩ = some f.sl := by rw [Lib.cell_of_heap hc1]; rfl
  have HBL := Lib.hid hbl
  have HZ := Lib.hid hz1
  have HG1 := Lib.hid hg1
  have HCB1 := Lib.hid hc1
  have HN1 := Lib.hid hN1
  have HO1 := Lib.hid ho1
  clear hbl hz1 hM1 hg1 hc1 hN1 ho1 c0 c1 c2 c3 c4
  have hgl1 : g < w1.heap.size := by rw [HZ.out]; exact hgl
  have hcl1 : f.cb < w1.heap.size := by rw [HZ.out]; exact hcl
  go_wp2_with (at_builtin; refine wpList_append_str _ rfl _ _ rfl f.sl f.bytes.size (Lib.strCells f.bytes) rfl FO1.out s rfl ?c1 ?_)
  case c1 => omega
  intro v w2 hown2 hgrow2 hrow
  obtain ⟨vp, vl, vc, rfl⟩ := own_slice hown2
  rw [strCells_append, ← size_append] at hown2
  have hg2 := (hgrow2.block g hgl1 (fun e => (HRN.out g e.symm).2.1 rfl)).trans HG1.out
  have hc2 := (hgrow2.block f.cb hcl1 (fun e => (HRN.out f.cb e.symm).2.2 rfl)).trans HCB1.out
  have hNl1 : N < w1.heap.size := by rw [HZ.out]; exact hNl
  have hN2 := (hgrow2.block N hNl1 (fun e => (HRN.out N e.symm).1 rfl)).trans HN1.out
  have c1'' : w2.cell? ⟨g, 1, none⟩ = some (.int .i64 U) := by rw [Lib.cell_of_heap hg2]; rfl
  have f1'' : w2.frozen? ⟨g, 1, none⟩ = false := by simp [World.frozen?, hg2]
  have d0'' : w2.cell? ⟨f.cb, 0, none⟩ = some f.sl := by rw [Lib.cell_of_heap hc2]; rfl
  have e0'' : w2.frozen? ⟨f.cb, 0, none⟩ = false := by simp [World.frozen?, hc2]
  have hne : ¬ f.cb = g := HNE.out.2.2.2
  have hne' : ¬ g = f.cb := fun e => hne e.symm
  have HOWN2 := Lib.hid hown2
  have HGR2 := Lib.hid hgrow2
  have HROW := Lib.hid hrow
  have HG2 := Lib.hid hg2
  have HC2 := Lib.hid hc2
  have HN2 := Lib.hid hN2
  clear hown2 hgrow2 hrow hg2 hc2 hN2 hl1 c1' c2' d0'
  go_wp2_with fail
  go_ret
  have hgF : ((w2.setCell ⟨f.cb, 0, none⟩ (.slice vp vl vc)).setCell ⟨g, 1, none⟩ (.int .i64 (U + (s.size : Int)))).heap[g]? = some (.cells #[.int .i64 C, .int .i64 (U + (s.size : Int)), .map (some M), wrV N, cnV N] 58 (0, 0)) := by
    rw [heap_setCell_same _ g 1 _ _ _ ((Below.heap_setCell _ _ _ _ (fun e => hne' e)).trans HG2.out)]
    rfl
  have hcF : ((w2.setCell ⟨f.cb, 0, none⟩ (.slice vp vl vc)).setCell ⟨g, 1, none⟩ (.int .i64 (U + (s.size : Int)))).heap[f.cb]? = some (.cells #[.slice vp vl vc, .int .i64 (f.dur : Int)] 66 (0, 0)) := by
    rw [Below.heap_setCell _ _ _ _ (fun e => hne e), heap_setCell_same _ f.cb 0 _ _ _ HC2.out]
    rfl
  have hoF : ∀ r, r ≠ f.cb → r ≠ g → ((w2.setCell ⟨f.cb, 0, none⟩ (.slice vp vl vc)).setCell ⟨g, 1, none⟩ (.int .i64 (U + (s.size : Int)))).heap[r]? = w2.heap[r]? := fun r h1 h2 => by
    rw [Below.heap_setCell _ _ _ _ h2, Below.heap_setCell _ _ _ _ h1]
  have hoW : ∀ r, r < w.heap.size → r ≠ g → r ≠ N → r ∉ f.own → ((w2.setCell ⟨f.cb, 0, none⟩ (.slice vp vl vc)).setCell ⟨g, 1, none⟩ (.int .i64 (U + (s.size : Int)))).heap[r]? = w.heap[r]? := fun r hr h1 h2 h3 => by
    have h4 : r ≠ f.cb := fun e => h3 (by simp [Fil.own, e])
    have h5 : some r ≠ f.sl.ownBlock := fun e => h3 (by simp [Fil.own, ← e])
    rw [hoF r h4 h1, HGR2.out.block r (by rw [HZ.out]; exact hr) h5]
    exact HBL.out r h2
  have hrowW : ∀ r, (Value.slice vp vl vc).ownBlock = some r → f.sl.ownBlock = some r ∨ w.heap.size ≤ r := fun r hr => by rw [← HZ.out]; exact HROW.out r hr
  have hownF : ((w2.setCell ⟨f.cb, 0, none⟩ (.slice vp vl vc)).setCell ⟨g, 1, none⟩ (.int .i64 (U + (s.size : Int)))).ownsRow 0 5 1 (.slice vp vl vc) (f.bytes ++ s).size (Lib.strCells (f.bytes ++ s)) := by
    refine ownsRow_same HOWN2.out (fun k hk => hoF k (fun e => ?_) (fun e => ?_))
    · rcases hrowW k hk with h | h
      · exact (HRN.out k h).2.2 e
      · omega
    · rcases hrowW k hk with h | h
      · exact (HRN.out k h).2.1 e
      · omega
  refine ⟨rfl, .slice vp vl vc, ?_, ?_⟩
  · exact H.out.change (f' := f.add (.slice vp vl vc) s) rfl rfl hrowW hgF ((hoF N (fun e => HNE.out.2.2.1 e.symm) (fun e => HNE.out.1 e.symm)).trans HN2.out) ⟨hcF, hownF⟩ hoW
  · refine ⟨HGR2.out.os.trans HO1.out.1, HGR2.out.tape.trans HO1.out.2.1, HGR2.out.output.trans HO1.out.2.2.1, ?_, fun r hr hnr => ?_, fun r hr => ?_⟩
    · have h1 := HGR2.out.size
      have h2 := HZ.out
      simp [World.setCell]
      omega
    · rw [owns_split] at hnr
      simp only [List.mem_append, List.mem_cons, not_or] at hnr
      exact hoW r hr hnr.1.1.1 hnr.1.1.2.2.1 hnr.1.2
    · rw [owns_split] at hr ⊢
      simp only [List.mem_append] at hr ⊢
      rcases hr with (hr | hr) | hr
      · exact .inl (.inl (.inl hr))
      · simp only [Fil.own, List.mem_cons, Option.mem_toList] at hr
        rcases hr with rfl | hr
        · exact .inl (.inl (.inr (by simp [Fil.own, Fil.add])))
        · rcases hrowW r hr with h | h
          · exact .inl (.inl (.inr (by simp [Fil.own, h])))
          · exact .inr h
      · exact .inl (.inr hr)
end Go.Proofs.Ytjjcicfilbfbjaa.Dsk
