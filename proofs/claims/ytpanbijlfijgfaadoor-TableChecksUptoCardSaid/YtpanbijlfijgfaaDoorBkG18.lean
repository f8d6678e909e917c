/- A book puts more behind each of its texts: growText walked. -/
import Derived.Test.YtpanbijlfijgfaaDoorBkF18
namespace Go.Proofs.YtpanbijlfijgfaaDoor.Bok
open Go Go.RowKit Go.Proofs.YtpanbijlfijgfaaDoor.Pin
theorem ginfo_text : (Tryd.prog.info? 9).map (fun i => (i.zero, i.size, i.bytes)) = some (some (.string ⟨#[]⟩), 1, 16) := by kernel_rfl
/-- the blocks that a list's marks may lie in, so much later -/
def Oks (h : Hd) (W0 g : Nat) : Prop := h.v.ownBlock = some g ∨ W0 ≤ g
/-- one list has been put more behind: it and its longer one -/
def Grw (mk : Nat → List Value) (w : World) (W0 : Nat) (h : Hd) (lo : Value) : Prop := MkV 1 (mk h.n) (Oks h W0) w h.v h.len ∧ MkV 1 (mk h.n) (Oks h W0) w lo (h.len + 70)
theorem Grw.frm {mk : Nat → List Value} {own : Nat → Prop} {w w' : World} {W0 : Nat} {h : Hd} {lo : Value} (hg : Grw mk w W0 h lo) (hf : Frm own w w') (hn : ∀ g, Oks h W0 g → g < w.heap.size → ¬ own g) : Grw mk w' W0 h lo :=
  ⟨hg.1.frm hf hn, hg.2.frm hf hn⟩
/-- a list while one puts more behind it -/
structure Lng (B : Nat) (T : TypeId) (mk : List Value) (w3 : World) (v : Value) (len : Nat) (wq : World) (v4 : Value) (j : Nat) : Prop where
  row : wq.ownsRow B T 1 v4 (len + j) (marks mk (len + j))
  blk : v4.ownBlock = v.ownBlock ∨ ∃ r, v4.ownBlock = some r ∧ w3.heap.size ≤ r
  old : MkV 1 mk (fun g => v.ownBlock = some g) wq v len
  frm : Frm (fun g => v.ownBlock = some g) w3 wq
theorem Lng.step {B : Nat} {T : TypeId} {u : Value} {w3 wq w' : World} {v v4 v5 : Value} {len j : Nat} {o : Obj} (h : Lng B T [u] w3 v len wq v4 j) (hA : ∃ A c, v = .slice A len c ∧ (0 < len → ∃ g, A = some ⟨g, 0, none⟩)) (hlt : ∀ g, v.ownBlock = some g → g < w3.heap.size)
    (hown : w'.ownsRow B T 1 v5 (len + j + 1) (marks [u] (len + j) ++ [u])) (hg : (v5.ownBlock = v4.ownBlock ∧ (wq.alloc o).grownBy w' v4.ownBlock) ∨ (∃ r, v5.ownBlock = some r ∧ wq.heap.size + 1 ≤ r) ∧ (wq.alloc o).grownBy w' none) :
    Lng B T [u] w3 v len w' v5 (j + 1) := by
  have hrow : w'.ownsRow B T 1 v5 (len + (j + 1)) (marks [u] (len + (j + 1))) := by
    rw [← Nat.add_assoc, ← marks_succ]
    exact hown
  have hsz := h.frm.size
  have ho : Frm (fun _ => False) wq (wq.alloc o) := (Frm.refl _).alloc o
  obtain ⟨A, c, hv, hA⟩ := hA
  refine ⟨hrow, ?_, ?_, ?_⟩
  · rcases hg with ⟨e, _⟩ | ⟨⟨r, e, hr⟩, _⟩
    · rw [e]; exact h.blk
    · exact .inr ⟨r, e, by omega⟩
  · rcases hg with ⟨e, hgr⟩ | ⟨_, hgr⟩
    · rcases h.blk with k | ⟨r, k, hr⟩
      · rw [hv]
        refine row_mkv_le rfl hrow (by rw [← hv, e, k]) (fun g hg => by rw [← hg, ← hv, e, k]) hA
      · refine h.old.frm (own := fun g => v4.ownBlock = some g) ((ho.mono (fun _ _ x => x.elim)).grown hgr (fun b hb _ => hb)) (fun g h1 _ h2 => ?_)
        have := hlt g h1
        rw [k] at h2
        injection h2 with h2
        omega
    · exact h.old.frm (ho.grown hgr (fun b hb => by cases hb)) (fun _ _ _ h => h)
  · rcases hg with ⟨e, hgr⟩ | ⟨_, hgr⟩
    · refine (h.frm.alloc o).grown hgr (fun b hb hl => ?_)
      rcases h.blk with k | ⟨r, k, hr⟩
      · rw [← k]; exact hb
      · rw [k] at hb
        injection hb with hb
        omega
    · exact (h.frm.alloc o).grown hgr (fun b hb => by cases hb)
set_option maxHeartbeats 4000000 in
set_option maxRecDepth 100000 in
theorem grow_text (B b q cap : Nat) (hs : List Hd) (w : World) (hc : w.cell? ⟨b, 3, none⟩ = some (.slice (some ⟨q, 0, none⟩) hs.length cap)) (hrow : RowAt w 71 q hs (fun _ => .slice none 0 0))
    (hok : ∀ h ∈ hs, w.ownsRow B 9 1 h.v h.len (marks (mkT h.n) h.len)) (hap : Apt hs) (hb : ¬ Own hs b) (hbq : b ≠ q) (hq : ¬ Own hs q) (hn : ∀ h ∈ hs, h.n < 100 ∧ h.len ≤ 1099511627776) (hm : hs.length ≤ 1048576) (hB : B ≤ w.heap.size) :
    Calls Tryd.prog 37 #[.pointer (some ⟨b, 0, none⟩)] w fun e w' => e = .returned (.tuple #[]) ∧ (∃ lo, RowAt w' 71 q hs lo ∧ ∀ i (hi : i < hs.length), Grw mkT w' w.heap.size hs[i] (lo i)) ∧ Frm (fun r => r = q ∨ Own hs r) w w' := by
  obtain ⟨N, hN⟩ : ∃ N, N = hs.length := ⟨_, rfl⟩
  have HN := Lib.hid hN
  have HM : Hid (N ≤ 1048576) := Lib.hid (by rw [hN]; exact hm)
  rw [← hN] at hc
  have HC := Lib.hid hc
  have HR := Lib.hid hrow
  have HO := Lib.hid hok
  have HA := Lib.hid hap
  have HB : Hid (¬ (b = q ∨ Own hs b)) := Lib.hid (by rintro (h | h); exact hbq h; exact hb h)
  have HQ := Lib.hid hq
  have HL := Lib.hid hn
  have HBS := Lib.hid hB
  have HQL := Lib.hid hrow.lt
  obtain ⟨i0, hi, hz0, hz1, hz2⟩ := info_parts ginfo_text
  have HI := Lib.hid hi
  have HZ0 := Lib.hid hz0
  have HZ1 := Lib.hid hz1
  have HZ2 := Lib.hid hz2
  clear hi hz0 hz1 hz2 hN hm hc hrow hok hap hb hq hn hB hbq
  go_enter Tryd.func37, Tryd.ntmps37
  go_wp2_with fail
  go_loopw [2] (fun i wr => ∃ (k : Nat) (lo : Nat → Value), k ≤ N ∧ i = .int .i64 (k : Int) ∧ Hid (RowAt wr 71 q hs lo ∧ ∀ j, k ≤ j → lo j = .slice none 0 0) ∧ Hid (∀ j (hj : j < hs.length), (k ≤ j → wr.ownsRow B 9 1 hs[j].v hs[j].len (marks (mkT hs[j].n) hs[j].len)) ∧ (j < k → Grw mkT wr w.heap.size hs[j] (lo j))) ∧ Hid (Frm (fun r => r = q ∨ Own hs r) w wr)) (fun i _ => N - (intOf i).toNat)
  case atStart => exact ⟨0, _, Nat.zero_le _, rfl, Lib.hid ⟨HR.out, fun _ _ => rfl⟩, Lib.hid (fun j hj => ⟨fun _ => HO.out _ (List.getElem_mem hj), fun h => by omega⟩), Lib.hid (Frm.refl _)⟩
  case round =>
    obtain ⟨k, lo, hk, rfl, HRW, HX, HF⟩ := hrel
    have hN := HM.out
    have c3 : wr.cell? ⟨b, 3, none⟩ = some (.slice (some ⟨q, 0, none⟩) N cap) := HF.out.cell HC.out HB.out
    by_cases hlt : (k : Int) < (N : Int)
    · have hkl : k < hs.length := by have := HN.out; omega
      obtain ⟨h, hh⟩ : ∃ h, h = hs[k] := ⟨_, rfl⟩
      have HH := Lib.hid hh
      obtain ⟨r1, r2, r3⟩ := HRW.out.1.2 k hkl
      rw [HRW.out.2 k (Nat.le_refl _)] at r2
      rw [← hh] at r1 r3
      have hx0 := (HX.out k hkl).1 (Nat.le_refl _)
      rw [← hh] at hx0
      have HLk := Lib.hid (HL.out h (by rw [hh]; exact List.getElem_mem hkl))
      obtain ⟨A, c, hv, hA⟩ := row_slice hx0
      have HAs := Lib.hid hA
      have HV := Lib.hid hv
      rw [hv] at r1
      have HX0 := Lib.hid hx0
      clear hh hv hA
      go_wp2_with fail
      obtain ⟨w3, hw3⟩ : ∃ w3, w3 = wr.alloc (.cells #[.slice A h.len c, .slice none 0 0, .int .i64 (h.n : Int)] 71) := ⟨_, rfl⟩
      obtain ⟨bx, hbx⟩ : ∃ bx, bx = wr.heap.size := ⟨_, rfl⟩
      have HBX : Hid (w3.heap[bx]? = some (.cells #[.slice A h.len c, .slice none 0 0, .int .i64 (h.n : Int)] 71 (0, 0))) := Lib.hid (by rw [hw3, hbx]; exact heap_alloc_new wr _)
      have ha3 : Frm (fun _ => False) wr w3 := by rw [hw3]; exact (Frm.refl _).alloc _
      have HFW : Hid (Frm (fun r => r = q ∨ Own hs r) w w3) := Lib.hid (by rw [hw3]; exact HF.out.alloc _)
      have HRW3 : Hid (RowAt w3 71 q hs lo ∧ ∀ j, k ≤ j → lo j = .slice none 0 0) := Lib.hid ⟨HRW.out.1.frm ha3 id, HRW.out.2⟩
      have HX3 : Hid (∀ j (hj : j < hs.length), (k ≤ j → w3.ownsRow B 9 1 hs[j].v hs[j].len (marks (mkT hs[j].n) hs[j].len)) ∧ (j < k → Grw mkT w3 w.heap.size hs[j] (lo j))) := Lib.hid (fun j hj => ⟨fun hkj => ha3.row ((HX.out j hj).1 hkj) (fun _ _ x => x), fun hjk => ((HX.out j hj).2 hjk).frm ha3 (fun _ _ _ x => x)⟩)
      have HLB : Hid (∀ r, h.v.ownBlock = some r → r < bx) := Lib.hid (fun r hr => by rw [hbx]; exact (HX0.out.lt r hr).2)
      have HL3 : Hid (bx < w3.heap.size ∧ w.heap.size ≤ w3.heap.size) := Lib.hid ⟨by rw [hw3, hbx]; simp, HFW.out.size⟩
      have HLN : Hid (Lng B 9 (mkT h.n) w3 h.v h.len w3 h.v 0) := Lib.hid (by
        have e := ha3.row HX0.out (fun _ _ x => x)
        exact ⟨by rw [Nat.add_zero]; exact e, .inl rfl, row_mkv rfl e, Frm.refl _⟩)
      rw [← hw3]
      rw [← hbx]
      rw [HV.out] at HLN
      clear hw3 hbx HX HF c3 r1 r2 r3 HRW HX0 ha3 hx0
      have b0 : w3.cell? ⟨bx, 0, none⟩ = some (.slice A h.len c) := by rw [Lib.cell_of_heap HBX.out]; rfl
      go_wp2_with fail
      go_loopw [4, 5] (fun v4 i wq => ∃ (j : Nat), j ≤ 70 ∧ i = .int .i64 (j : Int) ∧ Hid (Lng B 9 (mkT h.n) w3 (.slice A h.len c) h.len wq v4 j)) (fun _ i _ => 70 - (intOf i).toNat)
      case atStart => exact ⟨0, Nat.zero_le _, rfl, HLN⟩
      case round =>
        obtain ⟨j, hj, rfl, HLq⟩ := hrel
        clear HLN b0
        obtain ⟨A4, c4, rfl, _⟩ := row_slice HLq.out.row
        have hbq : wr.heap[bx]? = some (.cells #[.slice A h.len c, .slice none 0 0, .int .i64 (h.n : Int)] 71 (0, 0)) := (HLq.out.frm.block bx HL3.out.1 (fun e => by have := HLB.out bx (by rw [HV.out]; exact e); omega)).trans HBX.out
        have b2 : wr.cell? ⟨bx, 2, none⟩ = some (.int .i64 (h.n : Int)) := by rw [Lib.cell_of_heap hbq]; rfl
        have hlen := HLk.out.2
        by_cases hlj : (j : Int) < 70
        · have HMK := Lib.hid (fun w => mark_text h.n HLk.out.1 w)
          have HAL := Lib.hid (HLq.out.row.alloc (.cells #[.string (wordT h.n)] 9))
          have HBB : Hid (B ≤ (wr.alloc (.cells #[.string (wordT h.n)] 9)).heap.size) := Lib.hid (by have := HBS.out; have := HL3.out.2; have := HLq.out.frm.size; simp; omega)
          clear hbq
          go_wp2_with fail
          refine (HMK.out _).mono ?_
          rintro e w' ⟨rfl, rfl⟩
          go_wp2_with (at_builtin; refine wpList_append2 _ rfl _ _ 22 rfl B 9 i0 (.string ⟨#[]⟩) 1 16 Tryd.underlying22 HI.out HZ0.out HZ1.out HZ2.out rfl (by decide) _ _ _ rfl HAL.out ⟨wr.heap.size, 0, none⟩ 1 1 [.string (wordT h.n)] rfl rfl Nat.one_pos ?c1 ?c2 ?c3 ?c4 HBB.out ?_)
          case c1 => exact new_cells wr [.string (wordT h.n)] 9
          case c2 => simp [Value.oneCell']
          case c3 => unfold maxLen; omega
          case c4 => omega
          intro v5 w5 hown hgr
          have HLn := Lib.hid (HLq.out.step ⟨A, c, rfl, HAs.out⟩ (fun g hg => by have := HLB.out g (by rw [HV.out]; exact hg); have := HL3.out.1; omega) hown hgr)
          obtain ⟨A5, c5, rfl, _⟩ := row_slice HLn.out.row
          clear hown hgr HAL HLq HBB b2
          go_wp2_with fail
          exact ⟨⟨j + 1, by omega, by go_num, HLn⟩, by simp [intOf]; omega⟩
        · obtain rfl : j = 70 := by omega
          have hin : h ∈ hs := by rw [HH.out]; exact List.getElem_mem hkl
          have hqn : ¬ (Value.slice A h.len c).ownBlock = some q := fun e => HQ.out ⟨h, hin, by rw [HV.out]; exact e⟩
          have HRq := Lib.hid (HRW3.out.1.frm HLq.out.frm hqn)
          have c3 : wr.cell? ⟨b, 3, none⟩ = some (.slice (some ⟨q, 0, none⟩) N cap) := HLq.out.frm.cell (HFW.out.cell HC.out HB.out) (fun e => HB.out (.inr ⟨h, hin, by rw [HV.out]; exact e⟩))
          have r2 : wr.cell? ⟨q, k * 3 + 1, none⟩ = some (.slice none 0 0) := by rw [← HRW3.out.2 k (Nat.le_refl _)]; exact (HRq.out.2 k hkl).2.1
          have fz := HRq.out.frozen (k * 3 + 1)
          have hset : Frm (fun r => r = q) wr (wr.setCell ⟨q, k * 3 + 1, none⟩ (.slice A4 (h.len + 70) c4)) := (Frm.refl _).set _ _ (fun _ => rfl)
          have hvlt : ∀ g, (Value.slice A h.len c).ownBlock = some g → g < w.heap.size := fun g hg => ((HO.out h hin).lt g (by rw [HV.out]; exact hg)).2
          have HRn : Hid (RowAt (wr.setCell ⟨q, k * 3 + 1, none⟩ (.slice A4 (h.len + 70) c4)) 71 q hs (fun i => if i = k then .slice A4 (h.len + 70) c4 else lo i) ∧ ∀ i, k + 1 ≤ i → (if i = k then Value.slice A4 (h.len + 70) c4 else lo i) = .slice none 0 0) := Lib.hid ⟨HRq.out.set k hkl _, fun i hi => by rw [if_neg (by omega)]; exact HRW3.out.2 i (by omega)⟩
          have HXn : Hid (∀ i (hi : i < hs.length), (k + 1 ≤ i → (wr.setCell ⟨q, k * 3 + 1, none⟩ (.slice A4 (h.len + 70) c4)).ownsRow B 9 1 hs[i].v hs[i].len (marks (mkT hs[i].n) hs[i].len)) ∧ (i < k + 1 → Grw mkT (wr.setCell ⟨q, k * 3 + 1, none⟩ (.slice A4 (h.len + 70) c4)) w.heap.size hs[i] (if i = k then .slice A4 (h.len + 70) c4 else lo i))) := Lib.hid (fun i hi => by
            have hiq : ∀ g, hs[i].v.ownBlock = some g → g ≠ q := fun g hg e => HQ.out ⟨hs[i], List.getElem_mem hi, by rw [← e]; exact hg⟩
            refine ⟨fun hki => ?_, fun hik => ?_⟩
            · refine hset.row (HLq.out.frm.row ((HX3.out i hi).1 (by omega)) (fun r hr hr2 => ?_)) (fun r hr => hiq r hr)
              have := HA.out i k hi hkl r hr (by rw [← HH.out, HV.out]; exact hr2)
              omega
            · by_cases e : i = k
              · subst e
                rw [if_pos rfl, ← HH.out]
                have hg : Grw mkT wr w.heap.size h (.slice A4 (h.len + 70) c4) := by
                  refine ⟨?_, ?_⟩
                  · rw [HV.out]
                    exact HLq.out.old.mono (fun g hg _ => .inl (by rw [HV.out]; exact hg))
                  · have e2 := row_mkv rfl HLq.out.row
                    refine e2.mono (fun g hg _ => ?_)
                    rcases HLq.out.blk with k2 | ⟨r, k2, hr⟩
                    · exact .inl (by rw [HV.out, ← k2]; exact hg)
                    · rw [k2] at hg
                      injection hg with hg
                      exact .inr (by have := HL3.out.2; omega)
                refine hg.frm hset (fun g hg _ eq => ?_)
                rcases hg with hg | hg
                · exact HQ.out ⟨h, hin, by rw [← eq]; exact hg⟩
                · have := HQL.out; omega
              · rw [if_neg e]
                refine (((HX3.out i hi).2 (by omega)).frm HLq.out.frm (fun g hg _ eq => ?_)).frm hset (fun g hg _ eq => ?_)
                · rcases hg with hg | hg
                  · exact e (HA.out i k hi hkl g hg (by rw [← HH.out, HV.out]; exact eq))
                  · have := hvlt g eq; omega
                · rcases hg with hg | hg
                  · exact hiq g hg eq
                  · have := HQL.out; omega)
          have HFn : Hid (Frm (fun r => r = q ∨ Own hs r) w (wr.setCell ⟨q, k * 3 + 1, none⟩ (.slice A4 (h.len + 70) c4))) := Lib.hid ((HFW.out.trans HLq.out.frm (fun r _ hr => .inr ⟨h, hin, by rw [HV.out]; exact hr⟩)).set _ _ (fun _ => .inl rfl))
          clear HLq HRW3 HX3 HFW hset hvlt hqn HRq hbq
          go_wp2_with fail
          exact ⟨⟨k + 1, _, by omega, by go_num, HRn, HXn, HFn⟩, by simp [intOf]; omega⟩
    · go_wp2_with fail
      first | refine bodyPost_end (results_none rfl _ _ _) rfl ?_ | refine bodyPost_ret (results_none rfl _ _ _) rfl ?_
      exact ⟨rfl, ⟨lo, HRW.out.1, fun i hi => (HX.out i hi).2 (by have := HN.out; omega)⟩, HF.out⟩
end Go.Proofs.YtpanbijlfijgfaaDoor.Bok
