import Derived.Test.YtpnmhldaaaemeaaGreatMa14
import Derived.Test.YtpnmhldaaaemeaaGreatMa16
import Derived.Test.YtpnmhldaaaemeaaGreatMa11
import Derived.Laws.AppendOwn
import Derived.BigQuiet
/- Chapter 24: the document's bytes: the sum behind them; all items. -/
namespace Go.Proofs.YtpnmhldaaaemeaaGreat.Snp
open Go.RowKit Go.Proofs.YtpnmhldaaaemeaaGreat.Pin
theorem ref_crc (b : List UInt8) (w : World) (hb : b.length ≤ 140737488355328) : Calls Tryz.prog 103 #[.string ⟨b.toArray⟩] w fun e w' => e = .returned (.int .u64 (sumB b : Int)) ∧ w = w' :=
  (Sum.refCrc_any ⟨b.toArray⟩ w (by show b.toArray.size ≤ maxLen; unfold maxLen; simp; omega)).mono fun e w' ⟨h1, h2⟩ => ⟨by rw [h1, ← Sum.crc_same]; rfl, h2⟩
theorem sumB_lt (b : List UInt8) : sumB b < 18446744073709551616 := Nat.lt_of_lt_of_le (Sum.crcT 0#64 b).isLt (by decide)
/-- '[]byte(s)' as a row -/
theorem bytes_row (w : World) (l : List UInt8) (hl : l.length ≤ 140737488355328) : ∃ W C, (convert 9 55 (.string ⟨l.toArray⟩)).run Tryz.prog w = .ok (.slice (some ⟨w.heap.size, 0, none⟩) l.length C) W ∧ Below w.heap.size w W ∧ RowB W w.heap.size (.slice (some ⟨w.heap.size, 0, none⟩) l.length C) l := by
  have h := Lib.run_convert_string_bytes w 9 55 5 ⟨l.toArray⟩ Tryz.underlying9 Tryz.underlying55 Tryz.underlying5
  have hs : ByteArray.size ⟨l.toArray⟩ = l.length := by show l.toArray.size = _; simp
  rw [hs] at h
  have hge := grownCap_ge w l.length 0 5
  have hle := grownCap_le_maxLen w l.length 0 5 (by unfold maxLen; omega)
  have hcs : (Lib.bytesCells w 5 ⟨l.toArray⟩).size = grownCap w l.length 0 5 := by
    unfold Lib.bytesCells
    rw [hs]
    simp
    omega
  have hn := Lib.bytesWorld_at_new w 5 ⟨l.toArray⟩
  rw [hcs] at hn
  refine ⟨_, _, h, ⟨rfl, rfl, rfl, by rw [Lib.bytesWorld_size]; omega, fun k hk => Lib.bytesWorld_at_old w _ _ k hk⟩, .inr ⟨w.heap.size, _, _, rfl, Nat.le_refl _, hn, hge, hle, hcs, ?_⟩⟩
  unfold Lib.bytesCells
  rw [Array.toList_append]
  have e : (Array.map (fun b => Value.int IntKind.u8 (b.toNat : Int)) (⟨l.toArray⟩ : ByteArray).data).toList = bcs l := by simp [bcs]
  rw [List.take_append_of_le_length (by rw [e, bcs_len]; exact Nat.le_refl _), e, List.take_of_length_le (by rw [bcs_len]; exact Nat.le_refl _)]
theorem RowB.cells {w : World} {B : Nat} {v : Value} {l : List UInt8} (h : RowB w B v l) : ∃ g cap, v = .slice (some ⟨g, 0, none⟩) l.length cap ∧ ∀ j u, (bcs l)[j]? = some u → w.cell? ((⟨g, 0, none⟩ : Addr).add j) = some u := by
  rcases h with h | ⟨g, cap, cur, rfl, hB, hg, _, _, _, ht⟩
  · obtain ⟨g, cap, e⟩ := h.slice
    exact ⟨g, cap, e, h.cells (by rw [e]; rfl)⟩
  · refine ⟨g, cap, rfl, fun j u hu => ?_⟩
    have hadd : (⟨g, 0, none⟩ : Addr).add j = ⟨g, j, none⟩ := by unfold Addr.add; split <;> simp_all
    rw [hadd, Lib.cell_of_heap hg]
    rw [← ht, List.getElem?_take] at hu
    split at hu
    · simpa using hu
    · cases hu
theorem conv_back {w : World} {B : Nat} {v : Value} {l : List UInt8} (h : RowB w B v l) : (convert 55 9 v).run Tryz.prog w = .ok (.string ⟨l.toArray⟩) w := by
  obtain ⟨g, cap, rfl, hc⟩ := h.cells
  exact run_convert_bytes_back w 55 9 5 ⟨g, 0, none⟩ cap l Tryz.underlying55 Tryz.underlying5 Tryz.underlying9 (fun j hj => hc j _ (by simp [bcs, hj]))
set_option maxRecDepth 100000 in
theorem ref_summed (l : List UInt8) (w : World) (hl : l.length + 8 ≤ 140737488355328) : Calls Tryz.prog 75 #[.string ⟨l.toArray⟩] w fun e w' => e = .returned (.string ⟨(l ++ leB (sumB l) 8).toArray⟩) ∧ Below w.heap.size w w' := by
  obtain ⟨W, C, hcv, hbl, hrow⟩ := bytes_row w l (by omega)
  have HC := Lib.hid (ref_crc l W (by omega))
  have HR := Lib.hid hrow
  have HB := Lib.hid hbl
  have HN := Lib.hid (ref_lowB (sumB l) 8 _ l w.heap.size W hrow hbl.size (sumB_lt l) (by decide) hl)
  clear hrow hbl hl
  go_enter Tryz.func75, Tryz.ntmps75
  go_wp2_with fail
  refine HC.out.mono ?_
  rintro e w1 ⟨rfl, rfl⟩
  clear hcv
  go_wp2_with fail
  refine HN.out.mono ?_
  rintro e w2 ⟨v2, rfl, hr2, ha2⟩
  have hcv := conv_back hr2
  have HB2 : Hid (Below w.heap.size w w2) := Lib.hid (by
    refine HB.out.trans ⟨ha2.os, ha2.tape, ha2.output, ha2.size, fun k hk => ha2.block k (Nat.lt_of_lt_of_le hk HB.out.size) ?_⟩
    simp [Value.ownBlock]
    omega)
  clear hr2 ha2
  go_wp2_with fail
  go_ret
  exact ⟨rfl, HB2.out⟩
end Go.Proofs.YtpnmhldaaaemeaaGreat.Snp
/- Chapter 24: the document's bytes: all items. -/
namespace Go.Proofs.YtpnmhldaaaemeaaGreat.Snp
open Go.RowKit Go.Proofs.YtpnmhldaaaemeaaGreat.Pin
set_option maxHeartbeats 4000000 in
set_option maxRecDepth 100000 in
theorem ref_bytes (l : List It) (v : Value) (w : World) (hT : ItemsAt w w.heap.size v l) (hl : l.length ≤ 140737488351232) (hB : ∀ it ∈ l, VaB it.val) (hI : ∀ it ∈ l, IdsB it.val) (hF : ∀ it ∈ l, FineP it) (hsz : (encB l).length ≤ 140737488355328) :
    Calls Tryz.prog 18 #[v] w fun e w' => e = .returned (.string ⟨(encB l).toArray⟩) ∧ Below w.heap.size w w' := by
  obtain ⟨A, c, rfl, hT⟩ := hT
  obtain ⟨L, hL⟩ : ∃ L, L = l.length := ⟨_, rfl⟩
  rw [← hL] at hl ⊢
  have HL := Lib.hid hL
  have HT := Lib.hid hT
  have HVB := Lib.hid hB
  have HIB := Lib.hid hI
  have HFI := Lib.hid hF
  have HSZ := Lib.hid hsz
  clear hL hT hB hI hF hsz
  have kc := Joins.run_convert_bytes_const_at (P := Tryz.prog) w 55 5 #[.int .u8 115, .int .u8 116, .int .u8 105, .int .u8 108, .int .u8 108, .int .u8 114, .int .u8 111, .int .u8 111, .int .u8 109, .int .u8 49] 10 10 w.heap.size rfl Tryz.underlying55 Tryz.underlying5
  go_enter Tryz.func18, Tryz.ntmps18
  go_wp2_with fail
  obtain ⟨W, hW⟩ : ∃ W, W = w.alloc (.cells (bcs magicB).toArray 5 (10, 11)) := ⟨_, rfl⟩
  have HR0 : Hid (Row W w.heap.size (.slice (some ⟨w.heap.size, 0, none⟩) 10 10) magicB) := Lib.hid (by rw [hW]; exact magic_row w w.heap.size (Nat.le_refl _))
  have HB0 : Hid (Below w.heap.size w W) := Lib.hid (by rw [hW]; exact (Below.refl _ w).alloc (Nat.le_refl _) _)
  rw [show w.alloc (.cells #[.int .u8 115, .int .u8 116, .int .u8 105, .int .u8 108, .int .u8 108, .int .u8 114, .int .u8 111, .int .u8 111, .int .u8 109, .int .u8 49] 5 (10, 11)) = W from hW.symm]
  clear hW kc
  go_loopw [3, 4] (fun b i wr => ∃ (k : Nat), k ≤ L ∧ i = .int .i64 k ∧ Hid (Row wr w.heap.size b (magicB ++ ((l.take k).map itB).flatten)) ∧ Hid (Below w.heap.size w wr)) (fun _ i _ => L - (intOf i).toNat)
  case atStart => exact ⟨0, by omega, rfl, Lib.hid (by simpa using HR0.out), HB0⟩
  case round =>
    obtain ⟨k, hk, rfl, HR, HW⟩ := hrel
    by_cases hlt : k < L
    · have hlt' : (k : Int) < (L : Int) := by omega
      have hkl : k < l.length := by rw [← HL.out]; exact hlt
      obtain ⟨r, o, rfl, hr, hc⟩ := HT.out (by have := HL.out; omega)
      obtain ⟨cl, hra, hva⟩ := hc k hkl
      have hvb := HVB.out _ (List.getElem_mem hkl)
      have hib := HIB.out _ (List.getElem_mem hkl)
      have hfi := HFI.out _ (List.getElem_mem hkl)
      have hle := flat_le (f := itB) k hkl
      obtain ⟨x, hx⟩ : ∃ x, x = l[k] := ⟨_, rfl⟩
      rw [← hx] at hra hva hvb hib hfi hle
      have HX := Lib.hid hx
      have HRA : Hid (∀ W', Below w.heap.size w W' → W'.rangeAt r (o + k * 12) (icells x cl)) := Lib.hid (fun W' hW' j u hj => (hW'.cell (p := ⟨r, _, none⟩) hr).trans (hra j u hj))
      obtain ⟨nd, hnd⟩ : ∃ nd : Nat, nd = x.db.toNat := ⟨_, rfl⟩
      have hdb : x.db = (nd : Int) := by have := hfi.1; omega
      have hd16 : nd < 16 := by have := hfi.1; omega
      obtain ⟨ne, hne⟩ : ∃ ne : Nat, ne = x.dead.toNat := ⟨_, rfl⟩
      have hw2 : IntKind.u64.wrap x.dead = (ne : Int) := by have := hfi.2.2.1; rw [IntKind.wrap_u64]; omega
      have hne64 : ne < 18446744073709551616 := by have := hfi.2.2.1; omega
      have d0 : wr.cell? ⟨r, o + k * 12, none⟩ = some (.int .i64 (nd : Int)) := by rw [← hdb]; exact HRA.out wr HW.out 0 _ rfl
      have hw1 : IntKind.u8.wrap (nd : Int) = (nd : Int) := by rw [IntKind.wrap_u8]; omega
      have hmod : (nd : Int) % 256 = (nd : Int) := by omega
      obtain ⟨acc, hacc⟩ : ∃ acc, acc = magicB ++ ((l.take k).map itB).flatten := ⟨_, rfl⟩
      rw [← hacc] at HR
      have hlen : acc.length + (15 + x.key.size + (vaB x.val).length) ≤ 140737488355328 := by
        have := HSZ.out
        rw [itB_len] at hle
        simp only [hacc, encB, bodyB, List.length_append, leB_len] at this ⊢
        omega
      have HAC := Lib.hid hacc
      have HND := Lib.hid hnd
      have HNE := Lib.hid hne
      have HLN := Lib.hid hlen
      have HVA := Lib.hid hva
      have HVX := Lib.hid hvb
      have HIX := Lib.hid hib
      have HKD := Lib.hid hfi.2.2.2.1
      have H64 := Lib.hid hne64
      have HBS : Hid (∀ o : Obj, w.heap.size ≤ (wr.alloc o).heap.size) := Lib.hid (fun o => Nat.le_trans HW.out.size (by simp))
      have HBW : Hid (∀ o : Obj, Below w.heap.size w (wr.alloc o)) := Lib.hid (fun o => HW.out.alloc HW.out.size o)
      clear hx hra hva hvb hib hfi hle hc hr hacc hlen hnd hne hdb hne64
      go_wp2_with (at_builtin; (refine wpList_row_all rfl _ _ rfl rfl (HR.out.alloc _) (HBS.out _) ⟨wr.heap.size, 0, none⟩ 2 2 [1, UInt8.ofNat nd] rfl rfl ?c1 ?c2 ?_))
      case c1 =>
        intro j u hu
        have hb : (wr.alloc (.cells #[.int .u8 1, .int .u8 (nd : Int)] 5)).heap[wr.heap.size]? = some (.cells #[.int .u8 1, .int .u8 (nd : Int)] 5 (0, 0)) := heap_alloc_new wr _
        have hj : j < 2 := by have := (List.getElem?_eq_some_iff.1 hu).1; simpa [bcs] using this
        have hb2 : bcs [1, UInt8.ofNat nd] = [.int .u8 1, .int .u8 (nd : Int)] := by
          have : (UInt8.ofNat nd).toNat = nd := by rw [UInt8.toNat_ofNat']; omega
          simp [bcs, this]
        rw [hb2] at hu
        have hj2 : j = 0 ∨ j = 1 := by omega
        rcases hj2 with rfl | rfl
        · show World.cell? _ ⟨wr.heap.size, 0, none⟩ = _
          rw [Lib.cell_of_heap hb]
          simpa using hu
        · show World.cell? _ ⟨wr.heap.size, 1, none⟩ = _
          rw [Lib.cell_of_heap hb]
          simpa using hu
      case c2 => have := HLN.out; simp only [List.length_cons, List.length_nil]; omega
      intro v1 w1 hr1 ha1
      have HR1 := Lib.hid hr1
      have HB1 : Hid (Below w.heap.size w w1) := Lib.hid ((HBW.out _).trans ((HR.out.alloc _).below ha1))
      clear hr1 ha1 d0
      have hr1 := HR1.out
      have HS1 : Hid (w.heap.size ≤ w1.heap.size) := Lib.hid HB1.out.size
      have d3 : w1.cell? ⟨r, o + k * 12 + 11, none⟩ = some (.int .i64 x.dead) := HRA.out w1 HB1.out 11 _ rfl
      have HC2 := Lib.hid (ref_low ne 8 v1 _ w.heap.size w1 HR1.out HS1.out H64.out (by decide) (by have := HLN.out; simp only [List.length_append, List.length_cons, List.length_nil]; omega))
      clear hr1 hw1 hmod hd16
      go_wp2_with fail
      refine HC2.out.mono ?_
      rintro e w2 ⟨v2, rfl, hr2, ha2⟩
      have HR2 := Lib.hid hr2
      have HB2 : Hid (Below w.heap.size w w2) := Lib.hid (HB1.out.trans (HR1.out.below ha2))
      have d1 : w2.cell? ⟨r, o + k * 12 + 1, none⟩ = some (.string x.key) := HRA.out w2 HB2.out 1 _ rfl
      have HC3 := Lib.hid (ref_text x.key v2 _ w.heap.size w2 hr2 HB2.out.size (by have := HLN.out; simp only [List.length_append, List.length_cons, List.length_nil, leB_len, textB_len]; omega))
      clear hr2 ha2 d3 hw2
      go_wp2_with fail
      refine HC3.out.mono ?_
      rintro e w3 ⟨v3, rfl, hr3, ha3⟩
      have HB3 : Hid (Below w.heap.size w w3) := Lib.hid (HB2.out.trans (HR2.out.below ha3))
      have g2 : w3.cell? ⟨r, o + k * 12 + 2, none⟩ = some (.int .u8 (x.val.kind : Int)) := HRA.out w3 HB3.out 2 _ rfl
      have g3 : w3.cell? ⟨r, o + k * 12 + 2 + 1, none⟩ = some (.string x.val.text) := HRA.out w3 HB3.out 3 _ rfl
      have g4 : w3.cell? ⟨r, o + k * 12 + 2 + 2, none⟩ = some cl.lv := HRA.out w3 HB3.out 4 _ rfl
      have g5 : w3.cell? ⟨r, o + k * 12 + 2 + 3, none⟩ = some cl.hv := HRA.out w3 HB3.out 5 _ rfl
      have g6 : w3.cell? ⟨r, o + k * 12 + 2 + 4, none⟩ = some cl.sv := HRA.out w3 HB3.out 6 _ rfl
      have g7 : w3.cell? ⟨r, o + k * 12 + 2 + 5, none⟩ = some cl.zv := HRA.out w3 HB3.out 7 _ rfl
      have g8 : w3.cell? ⟨r, o + k * 12 + 2 + 6, none⟩ = some cl.ev := HRA.out w3 HB3.out 8 _ rfl
      have g9 : w3.cell? ⟨r, o + k * 12 + 2 + 7, none⟩ = some (.int .u64 (x.val.ms : Int)) := HRA.out w3 HB3.out 9 _ rfl
      have g10 : w3.cell? ⟨r, o + k * 12 + 2 + 8, none⟩ = some (.int .u64 (x.val.seq : Int)) := HRA.out w3 HB3.out 10 _ rfl
      have HR3 := Lib.hid hr3
      have HC4 := Lib.hid (ref_value x.val cl v3 _ w.heap.size w3 hr3 HB3.out.size (HVA.out.below HB3.out) HVX.out HIX.out HKD.out.1 HKD.out.2 (by have := HLN.out; simp only [List.length_append, List.length_cons, List.length_nil, leB_len, textB_len]; omega))
      clear hr3 ha3 d1
      go_wp2_with fail
      refine HC4.out.mono ?_
      rintro e w4 ⟨v4, rfl, hr4, ha4⟩
      have HR4 := Lib.hid hr4
      have HB4 : Hid (Below w.heap.size w w4) := Lib.hid (HB3.out.trans (HR3.out.below ha4))
      clear hr4 ha4 g2 g3 g4 g5 g6 g7 g8 g9 g10
      go_wp2_with fail
      go_roundw
      case rel =>
        refine ⟨k + 1, by omega, by go_num, Lib.hid ?_, HB4⟩
        have h4 := HR4.out
        have e1 : [(1 : UInt8), UInt8.ofNat nd] = leB 1 1 ++ leB nd 1 := by simp [leB, List.range_succ]
        rw [e1] at h4
        rw [flat_succ hkl, ← HX.out, itB, ← HND.out, ← HNE.out, ← List.append_assoc magicB, ← HAC.out]
        simpa only [List.append_assoc] using h4
      case measure => simp [intOf]; omega
    · have hkL : k = l.length := by have := HL.out; omega
      have hR := HR.out
      rw [hkL, List.take_length] at hR
      have HR1 := Lib.hid hR
      have hlt' : ¬ (k : Int) < (L : Int) := by omega
      have hln := HSZ.out
      simp only [encB, bodyB, List.length_append, leB_len] at hln
      have HLN := Lib.hid hln
      have HBS : Hid (∀ o : Obj, w.heap.size ≤ (wr.alloc o).heap.size) := Lib.hid (fun o => Nat.le_trans HW.out.size (by simp))
      have HBW : Hid (∀ o : Obj, Below w.heap.size w (wr.alloc o)) := Lib.hid (fun o => HW.out.alloc HW.out.size o)
      clear hkL hR hln
      go_wp2_with (at_builtin; (refine wpList_row_all rfl _ _ rfl rfl (HR1.out.alloc _) (HBS.out _) ⟨wr.heap.size, 0, none⟩ 1 1 [UInt8.ofNat 0] rfl rfl ?c1 ?c2 ?_))
      case c1 => exact fun j u hu => hu
      case c2 => have := HLN.out; simp at this ⊢; omega
      intro v1 w1 hr1 ha1
      have HB1 : Hid (Below w.heap.size w w1) := Lib.hid ((HBW.out _).trans ((HR1.out.alloc _).below ha1))
      have hr2 : Row w1 w.heap.size v1 (bodyB l) := by rw [bodyB, ← List.append_assoc]; exact hr1
      have hcv := conv_bytes hr2
      have HSM := Lib.hid (ref_summed (bodyB l) w1 (by have := HSZ.out; simp only [encB, List.length_append, leB_len] at this; omega))
      clear hr1 ha1 hr2
      go_wp2_with fail
      refine HSM.out.mono ?_
      rintro e w2 ⟨rfl, hb2⟩
      have HB2 := Lib.hid (HB1.out.trans (hb2.mono HB1.out.size))
      clear hb2 hcv
      go_wp2_with fail
      go_ret
      exact ⟨rfl, HB2.out⟩
end Go.Proofs.YtpnmhldaaaemeaaGreat.Snp
/- Chapter 24: the document's sorting of texts: halves, put together. -/
namespace Go.Proofs.YtpnmhldaaaemeaaGreat.Snp
open Go.RowKit Go.Proofs.YtpnmhldaaaemeaaGreat.Pin

/-- texts in a row, with room -/
def SlT (w : World) (B : Nat) (v : Value) (l : List ByteArray) : Prop :=
  ∃ A c, v = .slice A l.length c ∧ l.length ≤ c ∧ (0 < l.length → ∃ r o, A = some ⟨r, o, none⟩ ∧ r < B ∧ ∀ j (h : j < l.length), w.cell? ⟨r, o + j, none⟩ = some (.string l[j]))
theorem SlT.below {w w' : World} {B : Nat} {v : Value} {l : List ByteArray} (h : SlT w B v l) (hb : Below B w w') : SlT w' B v l := by
  obtain ⟨A, c, e, hc, h⟩ := h
  refine ⟨A, c, e, hc, fun h0 => ?_⟩
  obtain ⟨r, o, e1, h1, h2⟩ := h h0
  exact ⟨r, o, e1, h1, fun j hj => (hb.cell (p := ⟨r, _, none⟩) h1).trans (h2 j hj)⟩
theorem SlT.more {w : World} {B B' : Nat} {v : Value} {l : List ByteArray} (h : SlT w B v l) (hB : B ≤ B') : SlT w B' v l := by
  obtain ⟨A, c, e, hc, h⟩ := h
  refine ⟨A, c, e, hc, fun h0 => ?_⟩
  obtain ⟨r, o, e1, h1, h2⟩ := h h0
  exact ⟨r, o, e1, by omega, h2⟩
theorem slt_take {w : World} {B r o c m : Nat} {l : List ByteArray} (hr : r < B) (h : ∀ j (h : j < l.length), w.cell? ⟨r, o + j, none⟩ = some (.string l[j])) (hm : m ≤ l.length) (hc : m ≤ c) : SlT w B (.slice (some ⟨r, o, none⟩) m c) (l.take m) := by
  have e : (l.take m).length = m := by simp; omega
  refine ⟨_, c, by rw [e], by rw [e]; exact hc, fun _ => ⟨r, o, rfl, hr, fun j hj => ?_⟩⟩
  rw [e] at hj
  rw [h j (by omega), List.getElem_take]
theorem slt_drop {w : World} {B r o c m L : Nat} {l : List ByteArray} (hr : r < B) (h : ∀ j (h : j < l.length), w.cell? ⟨r, o + j, none⟩ = some (.string l[j])) (hL : L = l.length) (hc : L ≤ c) : SlT w B (.slice (some ⟨r, o + m, none⟩) (L - m) (c - m)) (l.drop m) := by
  have e : (l.drop m).length = L - m := by simp; omega
  refine ⟨_, c - m, by rw [e], by rw [e]; omega, fun _ => ⟨r, o + m, rfl, hr, fun j hj => ?_⟩⟩
  rw [e] at hj
  have := h (m + j) (by omega)
  rw [← Nat.add_assoc] at this
  rw [this, List.getElem_drop]
theorem slt_tail {w : World} {B c : Nat} {A : Option Addr} {x : ByteArray} {l : List ByteArray} (h : SlT w B (.slice A (l.length + 1) c) (x :: l)) : ∃ r o, A = some ⟨r, o, none⟩ ∧ r < B ∧ w.cell? ⟨r, o, none⟩ = some (.string x) ∧ ∀ n, n = l.length → SlT w B (.slice (if c = 1 then some ⟨r, o, none⟩ else some ⟨r, o + 1, none⟩) n (c - 1)) l := by
  obtain ⟨A', c', e, hc, h⟩ := h
  injection e with e1 e2 e3
  subst e1 e3
  obtain ⟨r, o, rfl, hr, hcl⟩ := h (by simp)
  refine ⟨r, o, rfl, hr, hcl 0 (by simp), fun n hn => ?_⟩
  subst hn
  simp only [List.length_cons] at hc
  by_cases h1 : c = 1
  · rw [if_pos h1]
    refine ⟨_, _, rfl, by omega, fun h0 => by omega⟩
  · rw [if_neg h1]
    refine ⟨_, _, rfl, by omega, fun h0 => ⟨r, o + 1, rfl, hr, fun j hj => ?_⟩⟩
    have := hcl (j + 1) (by simp; omega)
    rw [show o + (j + 1) = o + 1 + j by omega] at this
    rw [this]
    rfl
def lenOf : Value → Nat
  | .slice _ n _ => n
  | _ => 0
theorem slt_own {w : World} {b : Nat} {v : Value} {out : List ByteArray} (h : w.ownsRow b 9 1 v out.length (out.map Value.string)) : SlT w w.heap.size v out := by
  rcases h.2 with ⟨rfl, h0⟩ | ⟨g, cap, cur, rfl, hbg, hg, hnc, hcm, hcs, htake⟩
  · have h0' : out = [] := by
      cases out with
      | nil => rfl
      | cons x out => simp at h0
    subst h0'
    exact ⟨_, _, rfl, Nat.le_refl _, fun h => absurd h (by simp)⟩
  · have hcells := h.cells (g := g) rfl
    refine ⟨_, _, rfl, hnc, fun _ => ⟨g, 0, rfl, (Array.getElem?_eq_some_iff.1 hg).1, fun j hj => ?_⟩⟩
    have := hcells j (.string out[j]) (by simp [hj])
    cases j with
    | zero => simpa [Addr.add] using this
    | succ j => simpa [Addr.add] using this
theorem grown_to {B : Nat} {w w1 w2 : World} {row : Option Nat} (h1 : Below B w w1) (hg : w1.grownBy w2 row) (hr : ∀ b, row = some b → B ≤ b) (hB : B ≤ w.heap.size) : Below B w w2 :=
  ⟨hg.os.trans h1.os, hg.tape.trans h1.tape, hg.output.trans h1.output, Nat.le_trans h1.size hg.size, fun b hb => (hg.block b (by have := h1.size; omega) (fun e => absurd (hr b e.symm) (by omega))).trans (h1.block b hb)⟩
theorem info_text : (Tryz.prog.info? 9).map (fun i => (i.zero, i.size, i.bytes)) = some (some (.string ⟨#[]⟩), 1, 16) := by kernel_rfl
/-- what the sorting leaves -/
def Sorts (w : World) (l : List ByteArray) (e : Ending) (w' : World) : Prop := ∃ rv l', e = .returned rv ∧ SlT w' w'.heap.size rv l' ∧ l'.Perm l ∧ SrtP l' ∧ Below w.heap.size w w'
set_option maxHeartbeats 4000000 in
set_option maxRecDepth 100000 in
theorem ref_sorted : ∀ (n : Nat) (l : List ByteArray) (v : Value) (w : World), l.length ≤ n → SlT w w.heap.size v l → l.length ≤ 1048576 → Calls Tryz.prog 124 #[v] w (Sorts w l)
  | n, l, v, w, hn, hT, hl => by
    by_cases h2 : l.length < 2
    · have hT2 := Lib.hid hT
      obtain ⟨A, c, rfl, hc, hT⟩ := hT
      obtain ⟨L, hL⟩ : ∃ L, L = l.length := ⟨_, rfl⟩
      rw [← hL] at h2 hT2
      have HL := Lib.hid hL
      rw [← hL] 
      clear hT hc hl hn hL
      have h2' : (L : Int) < 2 := by omega
      go_enter Tryz.func124, Tryz.ntmps124
      go_wp2_with fail
      go_ret
      refine ⟨_, l, rfl, hT2.out, List.Perm.refl l, ?_, Below.refl _ _⟩
      have := HL.out
      match l, this with
      | [], _ => exact List.Pairwise.nil
      | [x], _ => simp [SrtP]
      | x :: y :: l, this => simp at this; omega
    · match n, hn with
      | 0, hn => omega
      | n + 1, hn =>
        have IH := Lib.hid (ref_sorted n)
        obtain ⟨i0, hi, hz0, hz1, hz2⟩ := info_parts info_text
        have HI := Lib.hid hi
        have HZ0 := Lib.hid hz0
        have HZ1 := Lib.hid hz1
        have HZ2 := Lib.hid hz2
        clear hi hz0 hz1 hz2
        obtain ⟨A, c, rfl, hc, hT⟩ := hT
        obtain ⟨L, hL⟩ : ∃ L, L = l.length := ⟨_, rfl⟩
        rw [← hL] at h2 hc hl hn
        rw [← hL]
        have HL := Lib.hid hL
        obtain ⟨r, o, rfl, hr, hcl⟩ := hT (by omega)
        have HC := Lib.hid hcl
        clear hT hcl hL
        have h2' : ¬ (L : Int) < 2 := by omega
        have hc0 : ¬ c = 0 := by omega
        have hc1 : ¬ c = L / 2 := by omega
        go_enter Tryz.func124, Tryz.ntmps124
        go_wp2_with fail
        refine (IH.out (l.take (L / 2)) _ _ (by have := HL.out; simp; omega) (slt_take hr HC.out (by have := HL.out; omega) (by omega)) (by have := HL.out; simp; omega)).mono ?_
        rintro e w1 ⟨va, la, rfl, ha1, ha2, ha3, ha4⟩
        have HA1 := Lib.hid ha1
        have HA2 := Lib.hid ha2
        have HA3 := Lib.hid ha3
        have HA4 := Lib.hid ha4
        obtain ⟨Aa, ca, rfl, _⟩ := ha1
        clear ha2 ha3 ha4
        go_wp2_with fail
        refine (IH.out (l.drop (L / 2)) _ _ (by have := HL.out; simp; omega) (slt_drop (by have := HA4.out.size; omega) (fun j hj => (HA4.out.cell (p := ⟨r, _, none⟩) hr).trans (HC.out j hj)) HL.out (by omega)) (by have := HL.out; simp; omega)).mono ?_
        rintro e w2 ⟨vb, lb, rfl, hb1, hb2, hb3, hb4⟩
        have HB1 := Lib.hid hb1
        have HB4 : Hid (Below w.heap.size w w2) := Lib.hid (HA4.out.trans (hb4.mono HA4.out.size))
        have HA5 : Hid (SlT w2 w2.heap.size (.slice Aa la.length ca) la) := Lib.hid ((HA1.out.below hb4).more hb4.size)
        have HM0 : Hid (Mrg l [] la lb) := Lib.hid (Mrg.init ((HA2.out.append hb2).trans (by rw [List.take_append_drop])) HA3.out hb3)
        obtain ⟨Ab, cb, rfl, _⟩ := hb1
        clear hb2 hb3 hb4
        go_wp2_with fail
        obtain ⟨H0, hH0⟩ : ∃ H0, H0 = w2.heap.size := ⟨_, rfl⟩
        have H2S := Lib.hid hH0
        rw [← hH0] at HB1 HA5
        clear hH0
        go_loopw [3, 4, 5] (fun sa sb so wr => ∃ (a b out : List ByteArray) (Aa : Option Addr) (ca : Nat) (Ab : Option Addr) (cb : Nat), sa = .slice Aa a.length ca ∧ sb = .slice Ab b.length cb ∧ Hid (SlT wr H0 sa a) ∧ Hid (SlT wr H0 sb b) ∧ Hid (wr.ownsRow H0 9 1 so out.length (out.map Value.string)) ∧ Hid (Mrg l out a b) ∧ Hid (Below H0 w2 wr)) (fun sa sb _ _ => lenOf sa + lenOf sb)
        case atStart => exact ⟨la, lb, [], _, _, _, _, rfl, rfl, HA5, HB1, Lib.hid (World.ownsRow_nil _ _ _ _), HM0, Lib.hid (Below.refl _ _)⟩
        case round =>
          obtain ⟨a, b, out, Aa, ca, Ab, cb, rfl, rfl, HSA, HSB, HO, HG, HW⟩ := hrel
          have HN : Hid (out.length + (a.length + b.length) ≤ 1048576) := Lib.hid (by have h1 := HG.out.perm.length_eq; have := HL.out; simp only [List.length_append] at h1; omega)
          clear HA1 HA2 HA3 HA4 HA5 HM0 HB1
          cases a with
          | nil =>
            cases b with
            | nil =>
              have hz : (Int.ofNat 0 == 0) = true := rfl
              go_wp2_with fail
              go_ret
              exact ⟨_, out, rfl, slt_own HO.out, HG.out.done.1, HG.out.done.2, HB4.out.trans (HW.out.mono (by have := HB4.out.size; have := H2S.out; omega))⟩
            | cons y b =>
              obtain ⟨rb, ob, rfl, hrb, hy, htb⟩ := slt_tail HSB.out
              have HTB := Lib.hid htb
              clear htb
              obtain ⟨bN, hbN⟩ : ∃ bN, bN = b.length + 1 := ⟨_, rfl⟩
              have HBN := Lib.hid hbN
              rw [List.length_cons, ← hbN]
              have hb0 : ((bN : Int) == 0) = false := by
                cases hq : ((bN : Int) == 0) with
                | false => rfl
                | true => have := eq_of_beq hq; omega
              have hb1 : (0 : Int) < (bN : Int) := by omega
              have hb2 : decide ((0 : Int) < (bN : Int)) = true := decide_eq_true hb1
              have hb3 : ¬ bN = 0 := by omega
              have hb4 : 0 < bN := by omega
              clear hbN
              go_wp2_with fail
              refine wp_region_q [0,0,0,0,0,0,0,0,0,0,1,0,0,1,0,0,0] (by kernel_rfl) (by kernel_rfl) ?_
              (refine q_pure_n rfl (fun K hK => ?_); go_simp; refine hK _ _ ?_; clear hK K)
              (refine q_pure_n rfl (fun K hK => ?_); go_simp; refine hK _ _ ?_; clear hK K)
              (refine q_pure_n rfl (fun K hK => ?_); go_simp; refine hK _ _ ?_; clear hK K)
              (refine q_pure_n rfl (fun K hK => ?_); go_simp; refine hK _ _ ?_; clear hK K)
              first | (refine q_pure_x rfl ?hy (fun K hK => ?_); (case hy => rfl); go_simp; refine hK _ _ ?_; clear hK K) | (refine q_pure_u rfl ?hy (fun K hK => ?_); (case hy => rfl); go_simp; refine hK _ _ ?_; clear hK K) | (refine q_pure_y rfl ?hy (fun K hK => ?_); (case hy => rfl); go_simp; refine hK _ _ ?_; clear hK K)
              first | (refine q_pure_x rfl ?hy (fun K hK => ?_); (case hy => rfl); go_simp; refine hK _ _ ?_; clear hK K) | (refine q_pure_u rfl ?hy (fun K hK => ?_); (case hy => rfl); go_simp; refine hK _ _ ?_; clear hK K) | (refine q_pure_y rfl ?hy (fun K hK => ?_); (case hy => rfl); go_simp; refine hK _ _ ?_; clear hK K)
              first | (refine q_pure_x rfl ?hy (fun K hK => ?_); (case hy => rfl); go_simp; refine hK _ _ ?_; clear hK K) | (refine q_pure_u rfl ?hy (fun K hK => ?_); (case hy => rfl); go_simp; refine hK _ _ ?_; clear hK K) | (refine q_pure_y rfl ?hy (fun K hK => ?_); (case hy => rfl); go_simp; refine hK _ _ ?_; clear hK K)
              first | (refine q_pure_x rfl ?hy (fun K hK => ?_); (case hy => rfl); go_simp; refine hK _ _ ?_; clear hK K) | (refine q_pure_u rfl ?hy (fun K hK => ?_); (case hy => rfl); go_simp; refine hK _ _ ?_; clear hK K) | (refine q_pure_y rfl ?hy (fun K hK => ?_); (case hy => rfl); go_simp; refine hK _ _ ?_; clear hK K)
              first | (refine q_pure_x rfl ?hy (fun K hK => ?_); (case hy => rfl); go_simp; refine hK _ _ ?_; clear hK K) | (refine q_pure_u rfl ?hy (fun K hK => ?_); (case hy => rfl); go_simp; refine hK _ _ ?_; clear hK K) | (refine q_pure_y rfl ?hy (fun K hK => ?_); (case hy => rfl); go_simp; refine hK _ _ ?_; clear hK K)
              first | (refine q_pure_x rfl ?hy (fun K hK => ?_); (case hy => rfl); go_simp; refine hK _ _ ?_; clear hK K) | (refine q_pure_u rfl ?hy (fun K hK => ?_); (case hy => rfl); go_simp; refine hK _ _ ?_; clear hK K) | (refine q_pure_y rfl ?hy (fun K hK => ?_); (case hy => rfl); go_simp; refine hK _ _ ?_; clear hK K)
              first | (refine q_read_x rfl ?hy (fun K hK => ?_); (case hy => rfl); go_simp; refine hK _ _ ?_; clear hK K) | (refine q_read_u rfl ?hy (fun K hK => ?_); (case hy => rfl); go_simp; refine hK _ _ ?_; clear hK K) | (refine q_read_y rfl ?hy (fun K hK => ?_); (case hy => rfl); go_simp; refine hK _ _ ?_; clear hK K)
              first | (refine q_pure_x rfl ?hy (fun K hK => ?_); (case hy => rfl); go_simp; refine hK _ _ ?_; clear hK K) | (refine q_pure_u rfl ?hy (fun K hK => ?_); (case hy => rfl); go_simp; refine hK _ _ ?_; clear hK K) | (refine q_pure_y rfl ?hy (fun K hK => ?_); (case hy => rfl); go_simp; refine hK _ _ ?_; clear hK K)
              first | (refine q_pure_x rfl ?hy (fun K hK => ?_); (case hy => rfl); go_simp; refine hK _ _ ?_; clear hK K) | (refine q_pure_u rfl ?hy (fun K hK => ?_); (case hy => rfl); go_simp; refine hK _ _ ?_; clear hK K) | (refine q_pure_y rfl ?hy (fun K hK => ?_); (case hy => rfl); go_simp; refine hK _ _ ?_; clear hK K)
              first | (refine q_read_x rfl ?hy (fun K hK => ?_); (case hy => rfl); go_simp; refine hK _ _ ?_; clear hK K) | (refine q_read_u rfl ?hy (fun K hK => ?_); (case hy => rfl); go_simp; refine hK _ _ ?_; clear hK K) | (refine q_read_y rfl ?hy (fun K hK => ?_); (case hy => rfl); go_simp; refine hK _ _ ?_; clear hK K)
              first | (refine q_pure_x rfl ?hy (fun K hK => ?_); (case hy => rfl); go_simp; refine hK _ _ ?_; clear hK K) | (refine q_pure_u rfl ?hy (fun K hK => ?_); (case hy => rfl); go_simp; refine hK _ _ ?_; clear hK K) | (refine q_pure_y rfl ?hy (fun K hK => ?_); (case hy => rfl); go_simp; refine hK _ _ ?_; clear hK K)
              first | (refine q_pure_x rfl ?hy (fun K hK => ?_); (case hy => rfl); go_simp; refine hK _ _ ?_; clear hK K) | (refine q_pure_u rfl ?hy (fun K hK => ?_); (case hy => rfl); go_simp; refine hK _ _ ?_; clear hK K) | (refine q_pure_y rfl ?hy (fun K hK => ?_); (case hy => rfl); go_simp; refine hK _ _ ?_; clear hK K)
              (refine q_pure_n rfl (fun K hK => ?_); go_simp; refine hK _ _ ?_; clear hK K)
              refine q_nil ?_
              intro nq
              go_wp2_with (at_builtin; refine wpList_append_own _ rfl _ _ 34 rfl H0 9 i0 (.string ⟨#[]⟩) 1 16 Tryz.underlying34 HI.out HZ0.out HZ1.out HZ2.out rfl (by decide) _ _ _ rfl (World.ownsRow.alloc (show (wr.drewN nq).ownsRow H0 9 1 _ out.length (out.map Value.string) from HO.out) _) ⟨wr.heap.size, 0, none⟩ 1 1 [.string y] rfl rfl ?c1 ?c2 ?c3 ?c4 ?c5 ?_)
              case c1 =>
                intro j u hj
                have h0 : j = 0 := by
                  match j, hj with
                  | 0, _ => rfl
                  | j + 1, hj => simp at hj
                subst h0
                simp at hj
                subst hj
                go_simp
              case c2 => simp [Value.oneCell']
              case c3 => have := HN.out; unfold maxLen; omega
              case c4 => have := HN.out; omega
              case c5 => have := HW.out.size; have := H2S.out; simp; show _ ≤ wr.heap.size + 1; omega
              intro v' w4 hown4 hgrow4 _
              have HO4 : Hid (w4.ownsRow H0 9 1 v' (out ++ [y]).length ((out ++ [y]).map Value.string)) := Lib.hid (by simpa using hown4)
              have HW4 : Hid (Below H0 w2 w4) := Lib.hid (grown_to ((below_drewN HW.out nq).alloc (show H0 ≤ wr.heap.size by have := HW.out.size; have := H2S.out; omega) _) hgrow4 (fun b e => (HO.out.lt b e).1) (Nat.le_of_eq H2S.out))
              have HGR := Lib.hid hgrow4
              clear hown4 hgrow4
              go_wp2_with fail
              have HX : Below H0 wr w4 := grown_to (((below_drewN (Below.refl _ wr) nq).alloc (show H0 ≤ wr.heap.size by have := HW.out.size; have := H2S.out; omega) _)) HGR.out (fun b e => (HO.out.lt b e).1) (by have := HW.out.size; have := H2S.out; omega)
              refine ⟨⟨[], b, out ++ [y], _, _, _, _, rfl, by rw [show b.length = bN - 1 by have := HBN.out; omega], Lib.hid ?_, Lib.hid ?_, HO4, Lib.hid ?_, HW4⟩, ?_⟩
              · exact (HSA.out.below HX)
              · exact ((HTB.out _ (by have := HBN.out; omega)).below HX)
              · exact HG.out.right (by intro z hz; cases hz)
              · simp [lenOf]; omega
          | cons x a =>
            obtain ⟨ra, oa, rfl, hra, hx, hta⟩ := slt_tail HSA.out
            have HTA := Lib.hid hta
            clear hta
            obtain ⟨aN, haN⟩ : ∃ aN, aN = a.length + 1 := ⟨_, rfl⟩
            have HAN := Lib.hid haN
            rw [List.length_cons, ← haN]
            have ha0 : ((aN : Int) == 0) = false := by
              cases hq : ((aN : Int) == 0) with
              | false => rfl
              | true => have := eq_of_beq hq; omega
            have ha1 : (0 : Int) < (aN : Int) := by omega
            have ha2 : decide ((0 : Int) < (aN : Int)) = true := decide_eq_true ha1
            have ha3 : ¬ aN = 0 := by omega
            have ha4 : 0 < aN := by omega
            clear haN
            cases b with
            | nil =>
              go_wp2_with fail
              refine wp_region_q [0,0,0,0,0,0,0,0,0,0,1,0,0,1,0,0,0] (by kernel_rfl) (by kernel_rfl) ?_
              (refine q_pure_n rfl (fun K hK => ?_); go_simp; refine hK _ _ ?_; clear hK K)
              (refine q_pure_n rfl (fun K hK => ?_); go_simp; refine hK _ _ ?_; clear hK K)
              (refine q_pure_n rfl (fun K hK => ?_); go_simp; refine hK _ _ ?_; clear hK K)
              (refine q_pure_n rfl (fun K hK => ?_); go_simp; refine hK _ _ ?_; clear hK K)
              first | (refine q_pure_x rfl ?hy (fun K hK => ?_); (case hy => rfl); go_simp; refine hK _ _ ?_; clear hK K) | (refine q_pure_u rfl ?hy (fun K hK => ?_); (case hy => rfl); go_simp; refine hK _ _ ?_; clear hK K) | (refine q_pure_y rfl ?hy (fun K hK => ?_); (case hy => rfl); go_simp; refine hK _ _ ?_; clear hK K)
              first | (refine q_pure_x rfl ?hy (fun K hK => ?_); (case hy => rfl); go_simp; refine hK _ _ ?_; clear hK K) | (refine q_pure_u rfl ?hy (fun K hK => ?_); (case hy => rfl); go_simp; refine hK _ _ ?_; clear hK K) | (refine q_pure_y rfl ?hy (fun K hK => ?_); (case hy => rfl); go_simp; refine hK _ _ ?_; clear hK K)
              first | (refine q_pure_x rfl ?hy (fun K hK => ?_); (case hy => rfl); go_simp; refine hK _ _ ?_; clear hK K) | (refine q_pure_u rfl ?hy (fun K hK => ?_); (case hy => rfl); go_simp; refine hK _ _ ?_; clear hK K) | (refine q_pure_y rfl ?hy (fun K hK => ?_); (case hy => rfl); go_simp; refine hK _ _ ?_; clear hK K)
              first | (refine q_pure_x rfl ?hy (fun K hK => ?_); (case hy => rfl); go_simp; refine hK _ _ ?_; clear hK K) | (refine q_pure_u rfl ?hy (fun K hK => ?_); (case hy => rfl); go_simp; refine hK _ _ ?_; clear hK K) | (refine q_pure_y rfl ?hy (fun K hK => ?_); (case hy => rfl); go_simp; refine hK _ _ ?_; clear hK K)
              first | (refine q_pure_x rfl ?hy (fun K hK => ?_); (case hy => rfl); go_simp; refine hK _ _ ?_; clear hK K) | (refine q_pure_u rfl ?hy (fun K hK => ?_); (case hy => rfl); go_simp; refine hK _ _ ?_; clear hK K) | (refine q_pure_y rfl ?hy (fun K hK => ?_); (case hy => rfl); go_simp; refine hK _ _ ?_; clear hK K)
              first | (refine q_pure_x rfl ?hy (fun K hK => ?_); (case hy => rfl); go_simp; refine hK _ _ ?_; clear hK K) | (refine q_pure_u rfl ?hy (fun K hK => ?_); (case hy => rfl); go_simp; refine hK _ _ ?_; clear hK K) | (refine q_pure_y rfl ?hy (fun K hK => ?_); (case hy => rfl); go_simp; refine hK _ _ ?_; clear hK K)
              first | (refine q_read_x rfl ?hy (fun K hK => ?_); (case hy => rfl); go_simp; refine hK _ _ ?_; clear hK K) | (refine q_read_u rfl ?hy (fun K hK => ?_); (case hy => rfl); go_simp; refine hK _ _ ?_; clear hK K) | (refine q_read_y rfl ?hy (fun K hK => ?_); (case hy => rfl); go_simp; refine hK _ _ ?_; clear hK K)
              first | (refine q_pure_x rfl ?hy (fun K hK => ?_); (case hy => rfl); go_simp; refine hK _ _ ?_; clear hK K) | (refine q_pure_u rfl ?hy (fun K hK => ?_); (case hy => rfl); go_simp; refine hK _ _ ?_; clear hK K) | (refine q_pure_y rfl ?hy (fun K hK => ?_); (case hy => rfl); go_simp; refine hK _ _ ?_; clear hK K)
              first | (refine q_pure_x rfl ?hy (fun K hK => ?_); (case hy => rfl); go_simp; refine hK _ _ ?_; clear hK K) | (refine q_pure_u rfl ?hy (fun K hK => ?_); (case hy => rfl); go_simp; refine hK _ _ ?_; clear hK K) | (refine q_pure_y rfl ?hy (fun K hK => ?_); (case hy => rfl); go_simp; refine hK _ _ ?_; clear hK K)
              first | (refine q_read_x rfl ?hy (fun K hK => ?_); (case hy => rfl); go_simp; refine hK _ _ ?_; clear hK K) | (refine q_read_u rfl ?hy (fun K hK => ?_); (case hy => rfl); go_simp; refine hK _ _ ?_; clear hK K) | (refine q_read_y rfl ?hy (fun K hK => ?_); (case hy => rfl); go_simp; refine hK _ _ ?_; clear hK K)
              first | (refine q_pure_x rfl ?hy (fun K hK => ?_); (case hy => rfl); go_simp; refine hK _ _ ?_; clear hK K) | (refine q_pure_u rfl ?hy (fun K hK => ?_); (case hy => rfl); go_simp; refine hK _ _ ?_; clear hK K) | (refine q_pure_y rfl ?hy (fun K hK => ?_); (case hy => rfl); go_simp; refine hK _ _ ?_; clear hK K)
              first | (refine q_pure_x rfl ?hy (fun K hK => ?_); (case hy => rfl); go_simp; refine hK _ _ ?_; clear hK K) | (refine q_pure_u rfl ?hy (fun K hK => ?_); (case hy => rfl); go_simp; refine hK _ _ ?_; clear hK K) | (refine q_pure_y rfl ?hy (fun K hK => ?_); (case hy => rfl); go_simp; refine hK _ _ ?_; clear hK K)
              (refine q_pure_n rfl (fun K hK => ?_); go_simp; refine hK _ _ ?_; clear hK K)
              refine q_nil ?_
              intro nq
              go_wp2_with (at_builtin; refine wpList_append_own _ rfl _ _ 34 rfl H0 9 i0 (.string ⟨#[]⟩) 1 16 Tryz.underlying34 HI.out HZ0.out HZ1.out HZ2.out rfl (by decide) _ _ _ rfl (World.ownsRow.alloc (show (wr.drewN nq).ownsRow H0 9 1 _ out.length (out.map Value.string) from HO.out) _) ⟨wr.heap.size, 0, none⟩ 1 1 [.string x] rfl rfl ?c1 ?c2 ?c3 ?c4 ?c5 ?_)
              case c1 =>
                intro j u hj
                have h0 : j = 0 := by
                  match j, hj with
                  | 0, _ => rfl
                  | j + 1, hj => simp at hj
                subst h0
                simp at hj
                subst hj
                go_simp
              case c2 => simp [Value.oneCell']
              case c3 => have := HN.out; unfold maxLen; omega
              case c4 => have := HN.out; omega
              case c5 => have := HW.out.size; have := H2S.out; simp; show _ ≤ wr.heap.size + 1; omega
              intro v' w4 hown4 hgrow4 _
              have HO4 : Hid (w4.ownsRow H0 9 1 v' (out ++ [x]).length ((out ++ [x]).map Value.string)) := Lib.hid (by simpa using hown4)
              have HW4 : Hid (Below H0 w2 w4) := Lib.hid (grown_to ((below_drewN HW.out nq).alloc (show H0 ≤ wr.heap.size by have := HW.out.size; have := H2S.out; omega) _) hgrow4 (fun b e => (HO.out.lt b e).1) (Nat.le_of_eq H2S.out))
              have HGR := Lib.hid hgrow4
              clear hown4 hgrow4
              go_wp2_with fail
              have HX : Below H0 wr w4 := grown_to (((below_drewN (Below.refl _ wr) nq).alloc (show H0 ≤ wr.heap.size by have := HW.out.size; have := H2S.out; omega) _)) HGR.out (fun b e => (HO.out.lt b e).1) (by have := HW.out.size; have := H2S.out; omega)
              refine ⟨⟨a, [], out ++ [x], _, _, _, _, by rw [show a.length = aN - 1 by have := HAN.out; omega], rfl, Lib.hid ?_, Lib.hid ?_, HO4, Lib.hid ?_, HW4⟩, ?_⟩
              · exact ((HTA.out _ (by have := HAN.out; omega)).below HX)
              · exact (HSB.out.below HX)
              · exact HG.out.left (by intro z hz; cases hz)
              · simp [lenOf]; omega
            | cons y b =>
              obtain ⟨rb, ob, rfl, hrb, hy, htb⟩ := slt_tail HSB.out
              have HTB := Lib.hid htb
              clear htb
              obtain ⟨bN, hbN⟩ : ∃ bN, bN = b.length + 1 := ⟨_, rfl⟩
              have HBN := Lib.hid hbN
              rw [List.length_cons, ← hbN]
              have hb0 : ((bN : Int) == 0) = false := by
                cases hq : ((bN : Int) == 0) with
                | false => rfl
                | true => have := eq_of_beq hq; omega
              have hb1 : (0 : Int) < (bN : Int) := by omega
              have hb2 : decide ((0 : Int) < (bN : Int)) = true := decide_eq_true hb1
              have hb3 : ¬ bN = 0 := by omega
              have hb4 : 0 < bN := by omega
              clear hbN
              by_cases hxy : LeS x y
              · have hq := (les_bool x y).trans (pb_true hxy)
                have HXY := Lib.hid hxy
                clear hxy
                go_wp2_with fail
                refine wp_region_q [0,0,0,0,0,0,0,0,0,0,1,0,0,1,0,0,0] (by kernel_rfl) (by kernel_rfl) ?_
                (refine q_pure_n rfl (fun K hK => ?_); go_simp; refine hK _ _ ?_; clear hK K)
                (refine q_pure_n rfl (fun K hK => ?_); go_simp; refine hK _ _ ?_; clear hK K)
                (refine q_pure_n rfl (fun K hK => ?_); go_simp; refine hK _ _ ?_; clear hK K)
                (refine q_pure_n rfl (fun K hK => ?_); go_simp; refine hK _ _ ?_; clear hK K)
                first | (refine q_pure_x rfl ?hy (fun K hK => ?_); (case hy => rfl); go_simp; refine hK _ _ ?_; clear hK K) | (refine q_pure_u rfl ?hy (fun K hK => ?_); (case hy => rfl); go_simp; refine hK _ _ ?_; clear hK K) | (refine q_pure_y rfl ?hy (fun K hK => ?_); (case hy => rfl); go_simp; refine hK _ _ ?_; clear hK K)
                first | (refine q_pure_x rfl ?hy (fun K hK => ?_); (case hy => rfl); go_simp; refine hK _ _ ?_; clear hK K) | (refine q_pure_u rfl ?hy (fun K hK => ?_); (case hy => rfl); go_simp; refine hK _ _ ?_; clear hK K) | (refine q_pure_y rfl ?hy (fun K hK => ?_); (case hy => rfl); go_simp; refine hK _ _ ?_; clear hK K)
                first | (refine q_pure_x rfl ?hy (fun K hK => ?_); (case hy => rfl); go_simp; refine hK _ _ ?_; clear hK K) | (refine q_pure_u rfl ?hy (fun K hK => ?_); (case hy => rfl); go_simp; refine hK _ _ ?_; clear hK K) | (refine q_pure_y rfl ?hy (fun K hK => ?_); (case hy => rfl); go_simp; refine hK _ _ ?_; clear hK K)
                first | (refine q_pure_x rfl ?hy (fun K hK => ?_); (case hy => rfl); go_simp; refine hK _ _ ?_; clear hK K) | (refine q_pure_u rfl ?hy (fun K hK => ?_); (case hy => rfl); go_simp; refine hK _ _ ?_; clear hK K) | (refine q_pure_y rfl ?hy (fun K hK => ?_); (case hy => rfl); go_simp; refine hK _ _ ?_; clear hK K)
                first | (refine q_pure_x rfl ?hy (fun K hK => ?_); (case hy => rfl); go_simp; refine hK _ _ ?_; clear hK K) | (refine q_pure_u rfl ?hy (fun K hK => ?_); (case hy => rfl); go_simp; refine hK _ _ ?_; clear hK K) | (refine q_pure_y rfl ?hy (fun K hK => ?_); (case hy => rfl); go_simp; refine hK _ _ ?_; clear hK K)
                first | (refine q_pure_x rfl ?hy (fun K hK => ?_); (case hy => rfl); go_simp; refine hK _ _ ?_; clear hK K) | (refine q_pure_u rfl ?hy (fun K hK => ?_); (case hy => rfl); go_simp; refine hK _ _ ?_; clear hK K) | (refine q_pure_y rfl ?hy (fun K hK => ?_); (case hy => rfl); go_simp; refine hK _ _ ?_; clear hK K)
                first | (refine q_read_x rfl ?hy (fun K hK => ?_); (case hy => rfl); go_simp; refine hK _ _ ?_; clear hK K) | (refine q_read_u rfl ?hy (fun K hK => ?_); (case hy => rfl); go_simp; refine hK _ _ ?_; clear hK K) | (refine q_read_y rfl ?hy (fun K hK => ?_); (case hy => rfl); go_simp; refine hK _ _ ?_; clear hK K)
                first | (refine q_pure_x rfl ?hy (fun K hK => ?_); (case hy => rfl); go_simp; refine hK _ _ ?_; clear hK K) | (refine q_pure_u rfl ?hy (fun K hK => ?_); (case hy => rfl); go_simp; refine hK _ _ ?_; clear hK K) | (refine q_pure_y rfl ?hy (fun K hK => ?_); (case hy => rfl); go_simp; refine hK _ _ ?_; clear hK K)
                first | (refine q_pure_x rfl ?hy (fun K hK => ?_); (case hy => rfl); go_simp; refine hK _ _ ?_; clear hK K) | (refine q_pure_u rfl ?hy (fun K hK => ?_); (case hy => rfl); go_simp; refine hK _ _ ?_; clear hK K) | (refine q_pure_y rfl ?hy (fun K hK => ?_); (case hy => rfl); go_simp; refine hK _ _ ?_; clear hK K)
                first | (refine q_read_x rfl ?hy (fun K hK => ?_); (case hy => rfl); go_simp; refine hK _ _ ?_; clear hK K) | (refine q_read_u rfl ?hy (fun K hK => ?_); (case hy => rfl); go_simp; refine hK _ _ ?_; clear hK K) | (refine q_read_y rfl ?hy (fun K hK => ?_); (case hy => rfl); go_simp; refine hK _ _ ?_; clear hK K)
                first | (refine q_pure_x rfl ?hy (fun K hK => ?_); (case hy => rfl); go_simp; refine hK _ _ ?_; clear hK K) | (refine q_pure_u rfl ?hy (fun K hK => ?_); (case hy => rfl); go_simp; refine hK _ _ ?_; clear hK K) | (refine q_pure_y rfl ?hy (fun K hK => ?_); (case hy => rfl); go_simp; refine hK _ _ ?_; clear hK K)
                first | (refine q_pure_x rfl ?hy (fun K hK => ?_); (case hy => rfl); go_simp; refine hK _ _ ?_; clear hK K) | (refine q_pure_u rfl ?hy (fun K hK => ?_); (case hy => rfl); go_simp; refine hK _ _ ?_; clear hK K) | (refine q_pure_y rfl ?hy (fun K hK => ?_); (case hy => rfl); go_simp; refine hK _ _ ?_; clear hK K)
                (refine q_pure_n rfl (fun K hK => ?_); go_simp; refine hK _ _ ?_; clear hK K)
                refine q_nil ?_
                intro nq
                go_wp2_with (at_builtin; refine wpList_append_own _ rfl _ _ 34 rfl H0 9 i0 (.string ⟨#[]⟩) 1 16 Tryz.underlying34 HI.out HZ0.out HZ1.out HZ2.out rfl (by decide) _ _ _ rfl (World.ownsRow.alloc (show (wr.drewN nq).ownsRow H0 9 1 _ out.length (out.map Value.string) from HO.out) _) ⟨wr.heap.size, 0, none⟩ 1 1 [.string x] rfl rfl ?c1 ?c2 ?c3 ?c4 ?c5 ?_)
                case c1 =>
                  intro j u hj
                  have h0 : j = 0 := by
                    match j, hj with
                    | 0, _ => rfl
                    | j + 1, hj => simp at hj
                  subst h0
                  simp at hj
                  subst hj
                  go_simp
                case c2 => simp [Value.oneCell']
                case c3 => have := HN.out; unfold maxLen; omega
                case c4 => have := HN.out; omega
                case c5 => have := HW.out.size; have := H2S.out; simp; show _ ≤ wr.heap.size + 1; omega
                intro v' w4 hown4 hgrow4 _
                have HO4 : Hid (w4.ownsRow H0 9 1 v' (out ++ [x]).length ((out ++ [x]).map Value.string)) := Lib.hid (by simpa using hown4)
                have HW4 : Hid (Below H0 w2 w4) := Lib.hid (grown_to ((below_drewN HW.out nq).alloc (show H0 ≤ wr.heap.size by have := HW.out.size; have := H2S.out; omega) _) hgrow4 (fun b e => (HO.out.lt b e).1) (Nat.le_of_eq H2S.out))
                have HGR := Lib.hid hgrow4
                clear hown4 hgrow4
                go_wp2_with fail
                have HX : Below H0 wr w4 := grown_to (((below_drewN (Below.refl _ wr) nq).alloc (show H0 ≤ wr.heap.size by have := HW.out.size; have := H2S.out; omega) _)) HGR.out (fun b e => (HO.out.lt b e).1) (by have := HW.out.size; have := H2S.out; omega)
                refine ⟨⟨a, (y :: b), out ++ [x], _, _, _, _, by rw [show a.length = aN - 1 by have := HAN.out; omega], by rw [List.length_cons, ← HBN.out], Lib.hid ?_, Lib.hid ?_, HO4, Lib.hid ?_, HW4⟩, ?_⟩
                · exact ((HTA.out _ (by have := HAN.out; omega)).below HX)
                · exact by rw [HBN.out]; exact (HSB.out.below HX)
                · exact HG.out.left (by intro z hz; cases hz; exact HXY.out)
                · simp [lenOf]; omega
              · have hq := (les_bool x y).trans (pb_false hxy)
                have HXY := Lib.hid (les_of_not hxy)
                clear hxy
                go_wp2_with fail
                refine wp_region_q [0,0,0,0,0,0,0,0,0,0,1,0,0,1,0,0,0] (by kernel_rfl) (by kernel_rfl) ?_
                (refine q_pure_n rfl (fun K hK => ?_); go_simp; refine hK _ _ ?_; clear hK K)
                (refine q_pure_n rfl (fun K hK => ?_); go_simp; refine hK _ _ ?_; clear hK K)
                (refine q_pure_n rfl (fun K hK => ?_); go_simp; refine hK _ _ ?_; clear hK K)
                (refine q_pure_n rfl (fun K hK => ?_); go_simp; refine hK _ _ ?_; clear hK K)
                first | (refine q_pure_x rfl ?hy (fun K hK => ?_); (case hy => rfl); go_simp; refine hK _ _ ?_; clear hK K) | (refine q_pure_u rfl ?hy (fun K hK => ?_); (case hy => rfl); go_simp; refine hK _ _ ?_; clear hK K) | (refine q_pure_y rfl ?hy (fun K hK => ?_); (case hy => rfl); go_simp; refine hK _ _ ?_; clear hK K)
                first | (refine q_pure_x rfl ?hy (fun K hK => ?_); (case hy => rfl); go_simp; refine hK _ _ ?_; clear hK K) | (refine q_pure_u rfl ?hy (fun K hK => ?_); (case hy => rfl); go_simp; refine hK _ _ ?_; clear hK K) | (refine q_pure_y rfl ?hy (fun K hK => ?_); (case hy => rfl); go_simp; refine hK _ _ ?_; clear hK K)
                first | (refine q_pure_x rfl ?hy (fun K hK => ?_); (case hy => rfl); go_simp; refine hK _ _ ?_; clear hK K) | (refine q_pure_u rfl ?hy (fun K hK => ?_); (case hy => rfl); go_simp; refine hK _ _ ?_; clear hK K) | (refine q_pure_y rfl ?hy (fun K hK => ?_); (case hy => rfl); go_simp; refine hK _ _ ?_; clear hK K)
                first | (refine q_pure_x rfl ?hy (fun K hK => ?_); (case hy => rfl); go_simp; refine hK _ _ ?_; clear hK K) | (refine q_pure_u rfl ?hy (fun K hK => ?_); (case hy => rfl); go_simp; refine hK _ _ ?_; clear hK K) | (refine q_pure_y rfl ?hy (fun K hK => ?_); (case hy => rfl); go_simp; refine hK _ _ ?_; clear hK K)
                first | (refine q_pure_x rfl ?hy (fun K hK => ?_); (case hy => rfl); go_simp; refine hK _ _ ?_; clear hK K) | (refine q_pure_u rfl ?hy (fun K hK => ?_); (case hy => rfl); go_simp; refine hK _ _ ?_; clear hK K) | (refine q_pure_y rfl ?hy (fun K hK => ?_); (case hy => rfl); go_simp; refine hK _ _ ?_; clear hK K)
                first | (refine q_pure_x rfl ?hy (fun K hK => ?_); (case hy => rfl); go_simp; refine hK _ _ ?_; clear hK K) | (refine q_pure_u rfl ?hy (fun K hK => ?_); (case hy => rfl); go_simp; refine hK _ _ ?_; clear hK K) | (refine q_pure_y rfl ?hy (fun K hK => ?_); (case hy => rfl); go_simp; refine hK _ _ ?_; clear hK K)
                first | (refine q_read_x rfl ?hy (fun K hK => ?_); (case hy => rfl); go_simp; refine hK _ _ ?_; clear hK K) | (refine q_read_u rfl ?hy (fun K hK => ?_); (case hy => rfl); go_simp; refine hK _ _ ?_; clear hK K) | (refine q_read_y rfl ?hy (fun K hK => ?_); (case hy => rfl); go_simp; refine hK _ _ ?_; clear hK K)
                first | (refine q_pure_x rfl ?hy (fun K hK => ?_); (case hy => rfl); go_simp; refine hK _ _ ?_; clear hK K) | (refine q_pure_u rfl ?hy (fun K hK => ?_); (case hy => rfl); go_simp; refine hK _ _ ?_; clear hK K) | (refine q_pure_y rfl ?hy (fun K hK => ?_); (case hy => rfl); go_simp; refine hK _ _ ?_; clear hK K)
                first | (refine q_pure_x rfl ?hy (fun K hK => ?_); (case hy => rfl); go_simp; refine hK _ _ ?_; clear hK K) | (refine q_pure_u rfl ?hy (fun K hK => ?_); (case hy => rfl); go_simp; refine hK _ _ ?_; clear hK K) | (refine q_pure_y rfl ?hy (fun K hK => ?_); (case hy => rfl); go_simp; refine hK _ _ ?_; clear hK K)
                first | (refine q_read_x rfl ?hy (fun K hK => ?_); (case hy => rfl); go_simp; refine hK _ _ ?_; clear hK K) | (refine q_read_u rfl ?hy (fun K hK => ?_); (case hy => rfl); go_simp; refine hK _ _ ?_; clear hK K) | (refine q_read_y rfl ?hy (fun K hK => ?_); (case hy => rfl); go_simp; refine hK _ _ ?_; clear hK K)
                first | (refine q_pure_x rfl ?hy (fun K hK => ?_); (case hy => rfl); go_simp; refine hK _ _ ?_; clear hK K) | (refine q_pure_u rfl ?hy (fun K hK => ?_); (case hy => rfl); go_simp; refine hK _ _ ?_; clear hK K) | (refine q_pure_y rfl ?hy (fun K hK => ?_); (case hy => rfl); go_simp; refine hK _ _ ?_; clear hK K)
                first | (refine q_pure_x rfl ?hy (fun K hK => ?_); (case hy => rfl); go_simp; refine hK _ _ ?_; clear hK K) | (refine q_pure_u rfl ?hy (fun K hK => ?_); (case hy => rfl); go_simp; refine hK _ _ ?_; clear hK K) | (refine q_pure_y rfl ?hy (fun K hK => ?_); (case hy => rfl); go_simp; refine hK _ _ ?_; clear hK K)
                (refine q_pure_n rfl (fun K hK => ?_); go_simp; refine hK _ _ ?_; clear hK K)
                refine q_nil ?_
                intro nq
                go_wp2_with (at_builtin; refine wpList_append_own _ rfl _ _ 34 rfl H0 9 i0 (.string ⟨#[]⟩) 1 16 Tryz.underlying34 HI.out HZ0.out HZ1.out HZ2.out rfl (by decide) _ _ _ rfl (World.ownsRow.alloc (show (wr.drewN nq).ownsRow H0 9 1 _ out.length (out.map Value.string) from HO.out) _) ⟨wr.heap.size, 0, none⟩ 1 1 [.string y] rfl rfl ?c1 ?c2 ?c3 ?c4 ?c5 ?_)
                case c1 =>
                  intro j u hj
                  have h0 : j = 0 := by
                    match j, hj with
                    | 0, _ => rfl
                    | j + 1, hj => simp at hj
                  subst h0
                  simp at hj
                  subst hj
                  go_simp
                case c2 => simp [Value.oneCell']
                case c3 => have := HN.out; unfold maxLen; omega
                case c4 => have := HN.out; omega
                case c5 => have := HW.out.size; have := H2S.out; simp; show _ ≤ wr.heap.size + 1; omega
                intro v' w4 hown4 hgrow4 _
                have HO4 : Hid (w4.ownsRow H0 9 1 v' (out ++ [y]).length ((out ++ [y]).map Value.string)) := Lib.hid (by simpa using hown4)
                have HW4 : Hid (Below H0 w2 w4) := Lib.hid (grown_to ((below_drewN HW.out nq).alloc (show H0 ≤ wr.heap.size by have := HW.out.size; have := H2S.out; omega) _) hgrow4 (fun b e => (HO.out.lt b e).1) (Nat.le_of_eq H2S.out))
                have HGR := Lib.hid hgrow4
                clear hown4 hgrow4
                go_wp2_with fail
                have HX : Below H0 wr w4 := grown_to (((below_drewN (Below.refl _ wr) nq).alloc (show H0 ≤ wr.heap.size by have := HW.out.size; have := H2S.out; omega) _)) HGR.out (fun b e => (HO.out.lt b e).1) (by have := HW.out.size; have := H2S.out; omega)
                refine ⟨⟨(x :: a), b, out ++ [y], _, _, _, _, by rw [List.length_cons, ← HAN.out], by rw [show b.length = bN - 1 by have := HBN.out; omega], Lib.hid ?_, Lib.hid ?_, HO4, Lib.hid ?_, HW4⟩, ?_⟩
                · exact by rw [HAN.out]; exact (HSA.out.below HX)
                · exact ((HTB.out _ (by have := HBN.out; omega)).below HX)
                · exact HG.out.right (by intro z hz; cases hz; exact HXY.out)
                · simp [lenOf]; omega
end Go.Proofs.YtpnmhldaaaemeaaGreat.Snp
