/- Crash: of each file the durable bytes stay, and so many of the others. -/
import Derived.Test.YtjjcicfilbfbjaaPlain04
namespace Go.Proofs.Ytjjcicfilbfbjaa.Dsk
open Go.RowKit Go.Maps Go.Sort Go.Proofs.Ytjjcicfilbfbjaa.Pin Go.Proofs.Ytjjcicfilbfbjaa.Gon Go.Proofs.Ytjjcicfilbfbjaa.Mps

theorem DiskAt.below {w w' : World} {g M N : Nat} {C U n : Int} {fs : List Fil} (h : DiskAt w g M N C U n fs) (hb : Below w.heap.size w w') : DiskAt w' g M N C U n fs := by
  have hlt := h.lt
  have hs : ∀ r ∈ owns g M N fs, w'.heap[r]? = w.heap[r]? := fun r hr => hb.block r (hlt r hr)
  exact ⟨(hs g (by simp [owns])).trans h.disk, (hs N (by simp [owns])).trans h.count, h.map.same (hs M (by simp [owns])), fun f hf => (h.files f hf).same (fun r hr => hs r (by
    simp only [owns, List.mem_cons, List.mem_flatMap]
    exact .inr (.inr (.inr ⟨f, hf, hr⟩)))), h.apart⟩
theorem Turned.of_below {w w' : World} (own : List Nat) (hb : Below w.heap.size w w') : Turned own own w w' := ⟨hb.os, hb.tape, hb.output, hb.size, fun r hr _ => hb.block r hr, fun _ h => .inl h⟩
theorem DiskAt.drewN {w : World} {g M N : Nat} {C U n : Int} {fs : List Fil} (h : DiskAt w g M N C U n fs) (k : Nat) : DiskAt (w.drewN k) g M N C U n fs := ⟨h.disk, h.count, h.map, h.files, h.apart⟩
theorem Turned.drewN {own own' : List Nat} {u w : World} (h : Turned own own' u w) (k : Nat) : Turned own own' u (w.drewN k) := ⟨h.os, h.tape, h.output, h.size, h.block, h.fresh⟩
theorem crashed_dur {ns : List (List UInt8)} {keep : List Int} {k : Nat} {l : List Abs} (h : ∀ a ∈ l, a.2.2 ≤ a.2.1.size) : ∀ a ∈ crashed ns keep k l, a.2.2 ≤ a.2.1.size := by
  intro a ha
  obtain ⟨b, hb, rfl⟩ := List.mem_map.1 ha
  have h1 := h b hb
  split
  · have h2 := keptN_le keep (ns.idxOf (key b)) b.2.1 b.2.2 h1
    show keptN _ _ _ _ ≤ (cutB _ _).size
    rw [cutB_size _ _ h2.1]
    exact Nat.le_refl _
  · exact h1
theorem owns_eq (g M N : Nat) (la : List Fil) (f f' : Fil) (lb : List Fil) (h : f'.own = f.own) : owns g M N (la ++ f' :: lb) = owns g M N (la ++ f :: lb) := by
  rw [owns_split, owns_split, h]
theorem DiskAt.durable {w : World} {g M N : Nat} {C U n : Int} {la lb : List Fil} {f : Fil} (h : DiskAt w g M N C U n (la ++ f :: lb)) (d : Nat) :
    DiskAt (w.setCell ⟨f.cb, 1, none⟩ (.int .i64 (d : Int))) g M N C U n (la ++ { f with dur := d } :: lb) ∧ Turned (owns g M N (la ++ f :: lb)) (owns g M N (la ++ { f with dur := d } :: lb)) w (w.setCell ⟨f.cb, 1, none⟩ (.int .i64 (d : Int))) := by
  have hap := h.apart
  rw [owns_split, List.nodup_append, List.nodup_append] at hap
  obtain ⟨⟨a1, a2, a3⟩, _, _⟩ := hap
  have hcbo : f.cb ∈ f.own := by simp [Fil.own]
  have hgf : g ≠ f.cb := fun e => a3 g (by simp) g (e ▸ hcbo) rfl
  have hNf : N ≠ f.cb := fun e => a3 N (by simp) N (e ▸ hcbo) rfl
  obtain ⟨fc, fo⟩ := h.files f (by simp)
  have hoF : ∀ r, r ≠ f.cb → (w.setCell ⟨f.cb, 1, none⟩ (.int .i64 (d : Int))).heap[r]? = w.heap[r]? := fun r h1 => Below.heap_setCell _ _ _ _ h1
  have hcF : (w.setCell ⟨f.cb, 1, none⟩ (.int .i64 (d : Int))).heap[f.cb]? = some (.cells #[f.sl, .int .i64 (d : Int)] 66 (0, 0)) := by
    rw [heap_setCell_same _ f.cb 1 _ _ _ fc]
    rfl
  have hoW : ∀ r, r < w.heap.size → r ≠ g → r ≠ N → r ∉ f.own → (w.setCell ⟨f.cb, 1, none⟩ (.int .i64 (d : Int))).heap[r]? = w.heap[r]? := fun r _ _ _ h3 => hoF r (fun e => h3 (e ▸ hcbo))
  refine ⟨h.change (f' := { f with dur := d }) rfl rfl (fun r hr => .inl hr) ((hoF g hgf).trans h.disk) ((hoF N hNf).trans h.count) ⟨hcF, ownsRow_same fo (fun k hk => hoF k (fun e => ?_))⟩ hoW, ?_⟩
  · unfold Fil.own at a2
    rw [hk] at a2
    simp at a2
    exact a2 e.symm
  · rw [owns_eq g M N la f { f with dur := d } lb rfl]
    refine ⟨rfl, rfl, rfl, by simp [World.setCell], fun r hr hnr => ?_, fun r hr => .inl hr⟩
    refine hoF r (fun e => hnr ?_)
    rw [owns_split]
    simp [e, hcbo]
theorem look_at {w : World} {g M N : Nat} {C U n : Int} {fs : List Fil} {f : Fil} (h : DiskAt w g M N C U n fs) (hf : f ∈ fs) (hd : (fs.map (·.name)).Nodup) :
    (Instr.lookup 56 (.map (some M)) (.string f.name) false).run Try.prog w = .ok (.pointer (some ⟨f.cb, 0, none⟩)) w := by
  obtain ⟨j, hs⟩ := seek_some (i := 0) hf rfl hd
  have hl := Mps.look (w := w) (P := Try.prog) Try.underlying56 Try.underlying9 (zero_content w) h.map f.name
  rw [hs] at hl
  exact hl
/-- a slice of numbers, in no block of the disk -/
def KeepAt (w : World) (own : List Nat) (A : Option Addr) (keep : List Int) : Prop := ∀ (i : Nat) (h : i < keep.length), ∃ r o, A = some ⟨r, o, none⟩ ∧ r < w.heap.size ∧ r ∉ own ∧ w.cell? ⟨r, o + i, none⟩ = some (.int .i64 keep[i])
theorem KeepAt.turned {w w' : World} {own own' : List Nat} {A : Option Addr} {keep : List Int} (h : KeepAt w own A keep) (t : Turned own own' w w') : KeepAt w' own' A keep := by
  intro i hi
  obtain ⟨r, o, e, h1, h2, h3⟩ := h i hi
  refine ⟨r, o, e, Nat.lt_of_lt_of_le h1 t.size, fun hm => ?_, ?_⟩
  · rcases t.fresh _ hm with h4 | h4
    · exact h2 h4
    · omega
  · rw [← h3]
    exact World.cell?_of_block (t.block _ h1 h2)
set_option maxHeartbeats 2000000 in
set_option maxRecDepth 100000 in
theorem crash_any (g M N : Nat) (C n : Int) (fs : List Fil) (A : Option Addr) (keep : List Int) (cap : Nat) (w : World) (h : DiskAt w g M N C (tot (fs.map Fil.abs) : Nat) n fs) (hd : (fs.map (·.name)).Nodup) (hl : fs.length ≤ 1000000) (hs : ∀ f ∈ fs, f.name.size ≤ 255)
    (hdur : ∀ f ∈ fs, f.dur ≤ f.bytes.size) (hU : tot (fs.map Fil.abs) ≤ 1073741824) (hA : KeepAt w (owns g M N fs) A keep) (hkl : keep.length ≤ 9223372036854775807) :
    Calls Try.prog 12 #[.pointer (some ⟨g, 0, none⟩), .slice A keep.length cap] w fun e w' => e = .returned (.int .i64 0) ∧
      ∃ N' fs', DiskAt w' g M N' C (tot (fs'.map Fil.abs) : Nat) (-1) fs' ∧ fs'.map Fil.abs = crashAll keep (fs.map Fil.abs) ∧ Turned (owns g M N fs) (owns g M N' fs') w w' := by
  have HT := Lib.hid (there_any g M w h.gcell.2.2.1)
  have HNm := Lib.hid (names_any g M N C _ n fs w h hl hs)
  have HD := Lib.hid h
  have HND := Lib.hid hd
  have HDU := Lib.hid hdur
  have HA := Lib.hid hA
  clear h hd hdur hA
  go_enter Try.func12, Try.ntmps12
  go_wp2_with fail
  refine HT.out.mono ?_
  rintro e w' ⟨rfl, rfl⟩
  go_wp2_with fail
  refine HNm.out.mono ?_
  rintro e w1 ⟨v, rfl, hrow, hb⟩
  obtain ⟨p, c, rfl⟩ := own_len hrow
  have HRow := Lib.hid hrow
  have HB := Lib.hid hb
  clear hrow hb
  obtain ⟨L, hL⟩ : ∃ L, L = fs.length := ⟨_, rfl⟩
  rw [← hL]
  have HL := Lib.hid hL
  have hLb : L ≤ 1000000 := by omega
  clear hL hl
  obtain ⟨ns, hns⟩ : ∃ ns, ns = namesL (fs.map Fil.abs) := ⟨_, rfl⟩
  have hDw := HD.out.below HB.out
  have hnl : ns.length = L := by rw [hns, namesL_length, List.length_map, HL.out]
  have hnnd : ns.Nodup := by
    rw [hns]
    refine namesL_nodup ?_
    rw [List.map_map]
    exact HND.out
  have hcells : ∀ k (hk : k < ns.length), ∃ r, p = some ⟨r, 0, none⟩ ∧ r < w1.heap.size ∧ r ∉ owns g M N fs ∧ w1.cell? ⟨r, k, none⟩ = some (.string ⟨ns[k].toArray⟩) := by
    intro k hk
    have hr := HRow.out
    rw [namesOf_abs, ← hns] at hr
    rcases hr.2 with ⟨e1, e2⟩ | ⟨r, cap', cur, e1, hbr, hgr, _⟩
    · have e3 := HL.out
      omega
    · injection e1 with e1 _ _
      subst e1
      refine ⟨_, rfl, (Array.getElem?_eq_some_iff.1 hgr).1, fun hm => ?_, ?_⟩
      · have := HD.out.lt _ hm
        omega
      · have := hr.cells (g := r) rfl k (encStr ns[k]) (by rw [List.getElem?_map, List.getElem?_eq_getElem hk]; rfl)
        simp only [Addr.add_lit, Nat.zero_add] at this
        exact this
  have hKw := HA.out.turned (Turned.of_below (owns g M N fs) (HB.out))
  have HDW := Lib.hid hDw
  have HNL := Lib.hid hnl
  have HNN := Lib.hid hnnd
  have HCE := Lib.hid hcells
  have HKW := Lib.hid hKw
  have HNS := Lib.hid hns
  clear hDw hnl hnnd hcells hKw hns
  go_wp2_with fail
  go_loopw [14] (fun i wr => ∃ (k : Nat) (fs' : List Fil), k ≤ L ∧ i = .int .i64 k ∧ Hid (DiskAt wr g M N C (tot (fs'.map Fil.abs) : Nat) n fs') ∧ Hid (fs'.map Fil.abs = crashed ns keep k (fs.map Fil.abs)) ∧ Hid (tot (fs'.map Fil.abs) ≤ 1073741824) ∧ Hid (Turned (owns g M N fs) (owns g M N fs') w1 wr)) (fun i _ => L - (intOf i).toNat)
  case atStart => exact ⟨0, fs, by omega, rfl, HDW, Lib.hid (crashed_zero _ _ _).symm, Lib.hid hU, Lib.hid (Turned.refl _ _)⟩
  case round =>
    obtain ⟨k, fs', hk, rfl, HDk, HAk, HUk, HTk⟩ := hrel
    have hnd' : (fs'.map (·.name)).Nodup := by
      have e : fs'.map (·.name) = (fs'.map Fil.abs).map (·.1) := by rw [List.map_map]; rfl
      rw [e, HAk.out, crashed_names, List.map_map]
      exact HND.out
    have HNDk := Lib.hid hnd'
    clear hnd'
    by_cases hlt : k < L
    · have hkn : k < ns.length := by rw [HNL.out]; exact hlt
      obtain ⟨fa, hfa, hfk⟩ := crashed_find (keep := keep) (k := k) (l := fs.map Fil.abs) hkn (fun x hx => by rw [HNS.out] at hx; exact mem_namesL.1 hx)
      rw [← HAk.out] at hfa
      obtain ⟨f, hf, rfl⟩ := List.mem_map.1 hfa
      obtain ⟨la, lb, rfl⟩ := mem_split hf
      obtain ⟨r, rfl, had1, had2, had3⟩ := HCE.out k hkn
      have hnm : (⟨ns[k].toArray⟩ : ByteArray) = f.name := by
        have h1 : f.name.data.toList = ns[k] := hfk
        rw [← h1]
      rw [hnm] at had3
      have hc : wr.cell? ⟨r, k, none⟩ = some (.string f.name) := by
        rw [← had3]
        exact World.cell?_of_block (HTk.out.block _ had1 had2)
      obtain ⟨c0, c1, c2, c3, c4⟩ := HDk.out.gcell
      have hlk := look_at HDk.out (f := f) (by simp) HNDk.out
      obtain ⟨fc, fo⟩ := HDk.out.files f (by simp)
      obtain ⟨q, cq, hq⟩ := own_len fo
      have d0 : wr.cell? ⟨f.cb, 0, none⟩ = some (.slice q f.bytes.size cq) := by rw [Lib.cell_of_heap fc, hq]; rfl
      have d1 : wr.cell? ⟨f.cb, 1, none⟩ = some (.int .i64 (f.dur : Int)) := by rw [Lib.cell_of_heap fc]; rfl
      have hdk : f.dur ≤ f.bytes.size := crashed_dur (ns := ns) (keep := keep) (k := k) (l := fs.map Fil.abs) (fun a ha => by
        obtain ⟨y, hy, rfl⟩ := List.mem_map.1 ha
        exact HDU.out y hy) f.abs (by rw [← HAk.out]; exact hfa)
      have htt : tot ((la ++ f :: lb).map Fil.abs) = tot (la.map Fil.abs) + f.bytes.size + tot (lb.map Fil.abs) := by rw [List.map_append, List.map_cons, tot_split]; rfl
      have hfs : f.bytes.size ≤ 1073741824 := by have := HUk.out; omega
      have HTT := Lib.hid htt
      clear htt
      have hlt' : (k : Int) < (L : Int) := by omega
      have hkl' : (keep.length : Int) ≤ 9223372036854775807 := by omega
      have HQ := Lib.hid hq
      have HFK := Lib.hid hfk
      clear had1 had2 had3 hfk hnm fc fo hq c0 c1 c3 c4
      by_cases hkk : k < keep.length
      · obtain ⟨rk, ok, hA, hk1, hk2, hk3⟩ := HKW.out k hkk
        subst hA
        have hkc : wr.cell? ⟨rk, ok + k, none⟩ = some (.int .i64 keep[k]) := by
          rw [← hk3]
          exact World.cell?_of_block (HTk.out.block _ hk1 hk2)
        obtain ⟨x, hx⟩ : ∃ x, x = keep[k] := ⟨_, rfl⟩
        rw [← hx] at hkc
        have HX := Lib.hid hx
        have hkk' : (k : Int) < (keep.length : Int) := by omega
        have hw0 : IntKind.i64.wrap ((f.bytes.size : Int) - (f.dur : Int)) = (f.bytes.size : Int) - (f.dur : Int) := by rw [IntKind.wrap_i64]; omega
        clear hk1 hk2 hk3 hx
        go_wp2_with fail
        refine wp_region_q [0,0,0,0,1,0,0,0,0,1,0,0,0,0,0,0] (by kernel_rfl) (by kernel_rfl) ?_
        (refine q_pure_n rfl (fun K hK => ?_); go_simp; refine hK _ _ ?_; clear hK K)
        (refine q_pure_n rfl (fun K hK => ?_); go_simp; refine hK _ _ ?_; clear hK K)
        (refine q_pure_n rfl (fun K hK => ?_); go_simp; refine hK _ _ ?_; clear hK K)
        (refine q_pure_n rfl (fun K hK => ?_); go_simp; refine hK _ _ ?_; clear hK K)
        (refine q_read_n rfl (fun K hK => ?_); go_simp; refine hK _ _ ?_; clear hK K)
        (refine q_pure_n rfl (fun K hK => ?_); go_simp; refine hK _ _ ?_; clear hK K)
        (refine q_pure_n rfl (fun K hK => ?_); go_simp; refine hK _ _ ?_; clear hK K)
        (refine q_pure_n rfl (fun K hK => ?_); go_simp; refine hK _ _ ?_; clear hK K)
        (refine q_pure_n rfl (fun K hK => ?_); go_simp; refine hK _ _ ?_; clear hK K)
        (refine q_read_n rfl (fun K hK => ?_); go_simp; refine hK _ _ ?_; clear hK K)
        (refine q_pure_n rfl (fun K hK => ?_); go_simp; refine hK _ _ ?_; clear hK K)
        (refine q_pure_n rfl (fun K hK => ?_); go_simp; refine hK _ _ ?_; clear hK K)
        (refine q_pure_n rfl (fun K hK => ?_); go_simp; refine hK _ _ ?_; clear hK K)
        (refine q_pure_n rfl (fun K hK => ?_); go_simp; refine hK _ _ ?_; clear hK K)
        (refine q_pure_n rfl (fun K hK => ?_); go_simp; refine hK _ _ ?_; clear hK K)
        (refine q_pure_n rfl (fun K hK => ?_); go_simp; refine hK _ _ ?_; clear hK K)
        refine q_nil ?_
        intro nq
        go_wp2_with fail
        obtain ⟨kp, hkp⟩ : ∃ kp, kp = keptN keep k f.bytes f.dur := ⟨_, rfl⟩
        have hkp2 : (f.dur : Int) + min (max x 0) ((f.bytes.size : Int) - (f.dur : Int)) = (kp : Int) := by
          rw [hkp]
          unfold keptN
          rw [dif_pos hkk, ← HX.out]
          omega
        have hkp3 : kp ≤ f.bytes.size ∧ f.dur ≤ kp := by rw [hkp]; exact keptN_le keep k f.bytes f.dur hdk
        rw [hkp2]
        refine (shorten_any g M N C _ n la f lb kp (wr.drewN nq) (HDk.out.drewN nq) hkp3.1 (by omega) (by have := HUk.out; omega) (by have := HTT.out; omega)).mono ?_
        rintro e w2 ⟨rfl, p2, c2', hp2, hD2, hT2⟩
        have HD2 := Lib.hid hD2
        have HT2 := Lib.hid hT2
        have HKP := Lib.hid hkp
        have fc2 := (hD2.files (f.cut p2 c2' kp) (by simp)).1
        have e1 : w2.cell? ⟨f.cb, 1, none⟩ = some (.int .i64 ((min f.dur kp : Nat) : Int)) := by
          have hh : w2.heap[f.cb]? = _ := fc2
          rw [Lib.cell_of_heap hh]; rfl
        have e2 : w2.frozen? ⟨f.cb, 1, none⟩ = false := by
          have : w2.heap[f.cb]? = _ := fc2
          simp [World.frozen?, this]
        clear hp2 hD2 hT2 fc2 hkp hkp2 hlk d0 d1 hc hkc
        go_wp2_with fail
        have hDe := HD2.out.durable kp
        go_roundw
        case rel =>
          refine ⟨k + 1, la ++ { f.cut p2 c2' kp with dur := kp } :: lb, by omega, by go_num, ?_, ?_, ?_, ?_⟩
          · have h1 := hDe.1
            rw [HTT.out] at h1
            have e3 : tot ((la ++ { f.cut p2 c2' kp with dur := kp } :: lb).map Fil.abs) = tot (la.map Fil.abs) + kp + tot (lb.map Fil.abs) := by
              rw [List.map_append, List.map_cons, tot_split]
              show _ + (cutB f.bytes kp).size + _ = _
              rw [cutB_size _ _ hkp3.1]
            have e4 : ((tot (la.map Fil.abs) + f.bytes.size + tot (lb.map Fil.abs) : Nat) : Int) - ((f.bytes.size : Int) - (kp : Int)) = ((tot (la.map Fil.abs) + kp + tot (lb.map Fil.abs) : Nat) : Int) := by omega
            rw [e4] at h1
            rw [e3]
            exact Lib.hid h1
          · have h1 : (la.map Fil.abs) ++ f.abs :: (lb.map Fil.abs) = crashed ns keep k (fs.map Fil.abs) := by rw [← HAk.out]; simp
            have h2 := crashed_step hkn HNN.out (by rw [List.map_map]; exact HND.out) h1.symm HFK.out
            rw [h2, List.map_append, List.map_cons]
            refine Lib.hid ?_
            congr 2
            unfold crash1
            rw [show keptN keep k f.abs.2.1 f.abs.2.2 = kp from HKP.out.symm]
            rfl
          · rw [List.map_append, List.map_cons, tot_split]
            have h1 := HUk.out
            rw [HTT.out] at h1
            show Hid (_ + (cutB f.bytes kp).size + _ ≤ _)
            rw [cutB_size _ _ hkp3.1]
            exact Lib.hid (by omega)
          · exact Lib.hid (((HTk.out.drewN nq).trans HT2.out).trans hDe.2)
        case measure => simp [intOf]; omega
      · have hkk' : ¬ ((k : Int) < (keep.length : Int)) := by omega
        go_wp2_with fail
        obtain ⟨kp, hkp⟩ : ∃ kp, kp = keptN keep k f.bytes f.dur := ⟨_, rfl⟩
        have hkp2 : f.dur = kp := by
          rw [hkp]
          unfold keptN
          rw [dif_neg hkk]
        have hkp3 : kp ≤ f.bytes.size ∧ f.dur ≤ kp := by rw [hkp]; exact keptN_le keep k f.bytes f.dur hdk
        rw [hkp2]
        refine (shorten_any g M N C _ n la f lb kp wr HDk.out hkp3.1 (by omega) (by have := HUk.out; omega) (by have := HTT.out; omega)).mono ?_
        rintro e w2 ⟨rfl, p2, c2', hp2, hD2, hT2⟩
        have HD2 := Lib.hid hD2
        have HT2 := Lib.hid hT2
        have HKP := Lib.hid hkp
        have fc2 := (hD2.files (f.cut p2 c2' kp) (by simp)).1
        have e1 : w2.cell? ⟨f.cb, 1, none⟩ = some (.int .i64 ((min f.dur kp : Nat) : Int)) := by
          have hh : w2.heap[f.cb]? = _ := fc2
          rw [Lib.cell_of_heap hh]; rfl
        have e2 : w2.frozen? ⟨f.cb, 1, none⟩ = false := by
          have : w2.heap[f.cb]? = _ := fc2
          simp [World.frozen?, this]
        clear hp2 hD2 hT2 fc2 hkp hkp2 hlk d0 d1 hc
        go_wp2_with fail
        have hDe := HD2.out.durable kp
        go_roundw
        case rel =>
          refine ⟨k + 1, la ++ { f.cut p2 c2' kp with dur := kp } :: lb, by omega, by go_num, ?_, ?_, ?_, ?_⟩
          · have h1 := hDe.1
            rw [HTT.out] at h1
            have e3 : tot ((la ++ { f.cut p2 c2' kp with dur := kp } :: lb).map Fil.abs) = tot (la.map Fil.abs) + kp + tot (lb.map Fil.abs) := by
              rw [List.map_append, List.map_cons, tot_split]
              show _ + (cutB f.bytes kp).size + _ = _
              rw [cutB_size _ _ hkp3.1]
            have e4 : ((tot (la.map Fil.abs) + f.bytes.size + tot (lb.map Fil.abs) : Nat) : Int) - ((f.bytes.size : Int) - (kp : Int)) = ((tot (la.map Fil.abs) + kp + tot (lb.map Fil.abs) : Nat) : Int) := by omega
            rw [e4] at h1
            rw [e3]
            exact Lib.hid h1
          · have h1 : (la.map Fil.abs) ++ f.abs :: (lb.map Fil.abs) = crashed ns keep k (fs.map Fil.abs) := by rw [← HAk.out]; simp
            have h2 := crashed_step hkn HNN.out (by rw [List.map_map]; exact HND.out) h1.symm HFK.out
            rw [h2, List.map_append, List.map_cons]
            refine Lib.hid ?_
            congr 2
            unfold crash1
            rw [show keptN keep k f.abs.2.1 f.abs.2.2 = kp from HKP.out.symm]
            rfl
          · rw [List.map_append, List.map_cons, tot_split]
            have h1 := HUk.out
            rw [HTT.out] at h1
            show Hid (_ + (cutB f.bytes kp).size + _ ≤ _)
            rw [cutB_size _ _ hkp3.1]
            exact Lib.hid (by omega)
          · exact Lib.hid (((HTk.out).trans HT2.out).trans hDe.2)
        case measure => simp [intOf]; omega
    · obtain rfl : k = L := by omega
      have hlt' : ¬ ((k : Int) < (k : Int)) := by omega
      have HF := Lib.hid (fail_yes g M N C _ n (-1) fs' wr HDk.out)
      go_wp2_with fail
      refine HF.out.mono ?_
      rintro e w2 ⟨rfl, N', hD2, hT2⟩
      have HD2 := Lib.hid hD2
      have HT2 := Lib.hid hT2
      clear hD2 hT2
      go_wp2_with fail
      go_ret
      refine ⟨rfl, N', fs', HD2.out, ?_, ((Turned.of_below _ HB.out).trans HTk.out).trans HT2.out⟩
      rw [HAk.out, ← crashed_all, HNS.out, List.length_map, HL.out]
end Go.Proofs.Ytjjcicfilbfbjaa.Dsk
