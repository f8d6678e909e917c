import Derived.Test.YtpnmhldaaaemeaaMa14
import Derived.Deep.RegionHeld2
import Derived.Deep.RegionWith
import Derived.Laws.Entries
import Derived.Test.YtpnmhldaaaemeaaMa5
/- Chapter 24: a reader: entries. -/
namespace Go.Proofs.Ytpnmhldaaaemeaa.Snp
open Go.RowKit Go.Proofs.Ytpnmhldaaaemeaa.Pin

def EnEl (w : World) (ok : Nat → Prop) (x : En) (cs : List Value) : Prop := ∃ pv, cs = [.int .u64 (x.ms : Int), .int .u64 (x.seq : Int), pv] ∧ On_pairs w ok pv x.pairs
theorem en_el : ElP EnEl :=
  ⟨fun _ _ _ _ _ ⟨pv, e, h⟩ hs hk => ⟨pv, e, h.keep (flat_el _) hs hk⟩, fun _ _ _ _ _ ⟨pv, e, h⟩ hk => ⟨pv, e, h.mono (flat_el _) hk⟩⟩
def EnV (w : World) (x : En) (v : Value) (w' : World) : Prop := ∃ pv, v = .agg #[.int .u64 (x.ms : Int), .int .u64 (x.seq : Int), pv] ∧ On_pairs w' (fun r => w.heap.size ≤ r) pv x.pairs
theorem entry_size : (Try.prog.info? 106).map (·.size) = some 3 := by kernel_rfl
theorem idP_len {a : Nat × Nat} {s r : List UInt8} (h : idP s = some (a, r)) : r.length + 16 ≤ s.length := by
  have h1 := (inv_id.fwd _ _ _ h).2
  rw [h1, List.length_append]
  simp only [idB, List.length_append, leB_len]
  omega
theorem set_three {w : World} {b : Nat} {x y z x' y' z' : Value} {t : TypeId} {fz : Nat × Nat} (h : w.heap[b]? = some (.cells #[x, y, z] t fz)) : ((w.setCell ⟨b, 0, none⟩ x').setCell ⟨b, 1, none⟩ y').setCell ⟨b, 2, none⟩ z' = w.setRow b #[x', y', z'] := by
  rw [setCell_eq_setRow w b 0 _ t fz x' h]
  have h1 := setRow_heap w b #[x, y, z] (#[x, y, z].setIfInBounds 0 x') t fz h
  rw [setCell_eq_setRow _ b 1 _ t fz y' h1, setRow_setRow]
  have h2 := setRow_heap w b #[x, y, z] ((#[x, y, z].setIfInBounds 0 x').setIfInBounds 1 y') t fz h
  rw [setCell_eq_setRow _ b 2 _ t fz z' h2, setRow_setRow]
  rfl
set_option maxHeartbeats 1000000 in
set_option maxRecDepth 100000 in
theorem entry_rd (s : List UInt8) (g : Nat) (w : World) (h : Rdr w g s) (hs : s.length ≤ 549755813888) :
    Reads 75 #[.pointer (some ⟨g, 0, none⟩)] w g s entryP (EnV w) := by
  have HN := Lib.hid (id_rd s g (w.alloc (.cells #[.int .u64 0, .int .u64 0, .slice none 0 0] 106)) (h.alloc _) (by omega))
  have HS := Lib.hid hs
  have HG := Lib.hid h.lt
  unfold Reads
  clear h hs
  go_enter Try.func75, Try.ntmps75
  go_wp2_with fail
  refine HN.out.mono ?_
  intro e w1 hg
  cases hn : idP s with
  | none =>
    rw [hn] at hg
    obtain ⟨rfl, ht⟩ := hg.none_of
    have HT := Lib.hid ((Turns.alloc g w _).trans ht)
    have E1 := Lib.hid (show entryP s = none by unfold entryP mapP thenP; rw [hn]; rfl)
    clear hg ht hn
    go_wp2_with fail
    exact ⟨rfl, by rw [E1.out]; exact ⟨rfl, HT.out⟩⟩
  | some x =>
    obtain ⟨⟨a, b⟩, r⟩ := x
    rw [hn] at hg
    obtain ⟨⟨v, rfl, rfl⟩, hr, ht⟩ := hg.some_of
    have HT := Lib.hid ((Turns.alloc g w _).trans ht)
    have HB := Lib.hid ((ht.block w.heap.size (by simp) (by have := HG.out; omega)).trans (heap_alloc_new w _))
    have HR := Lib.hid hr
    have HL := Lib.hid (idP_len hn)
    have HN1 := Lib.hid hn
    have HTK : Hid (∀ W, GrowP.Grows (w1.alloc (.cells #[.int .u64 (a : Int), .int .u64 (b : Int)] 29)) W → Reads 54 #[.pointer (some ⟨g, 0, none⟩), .func (.func 55) #[.pointer (some ⟨g, 0, none⟩)] #[]] W g r (listP pairP) (fun l v w' => On_pairs w' (fun q => w1.heap.size + 1 ≤ q) v l)) := Lib.hid (fun W hW => by
      have hsz : w1.heap.size + 1 ≤ W.heap.size := by have := hW.size; simpa using this
      have := take_pairs r g W ((hr.alloc _).of_below hW) (by have := HS.out; have := idP_len hn; omega)
      refine this.mono fun e w' hg => ?_
      cases hb : listP pairP r with
      | none => rw [hb] at hg; exact hg
      | some x =>
        rw [hb] at hg
        obtain ⟨⟨v, h1, h2⟩, h3, h4⟩ := hg.some_of
        exact ⟨⟨v, h1, h2.mono (flat_el _) (fun q _ hq => by omega)⟩, h3, h4⟩)
    clear hg ht hn hr
    go_wp2_with fail
    cases hb : listP pairP r with
    | none =>
      have E1 := Lib.hid (show entryP s = none by unfold entryP mapP thenP; rw [HN1.out]; show ((listP pairP r).map _).map _ = none; rw [hb]; rfl)
      have HTN : Hid (∀ W, GrowP.Grows (w1.alloc (.cells #[.int .u64 (a : Int), .int .u64 (b : Int)] 29)) W → Calls Try.prog 54 #[.pointer (some ⟨g, 0, none⟩), .func (.func 55) #[.pointer (some ⟨g, 0, none⟩)] #[]] W fun e w' => e = .panicked [{ v := noneV, recovered := false }] ∧ Turns g w w') := Lib.hid (fun W hW => (HTK.out W hW).mono fun e w' hg => by
        rw [hb] at hg
        obtain ⟨h1, h2⟩ := hg.none_of
        exact ⟨h1, HT.out.trans (((Turns.alloc g w1 _).trans (Turns.of_below hW)).trans h2)⟩)
      clear hb HTK
      refine GrowP.wp_region_grow (fun c w' => c = [{ v := noneV, recovered := false }] ∧ Turns g w w') [fun v _ => v = .agg #[.int .u64 (a : Int), .int .u64 (b : Int)], fun v _ => v = .pointer (some ⟨g, 0, none⟩), fun v _ => v = .pointer (some ⟨g, 0, none⟩), fun v _ => v = .func (.func 55) #[.pointer (some ⟨g, 0, none⟩)] #[], fun _ _ => False, fun _ _ => False, fun _ _ => False]
        [[], [], [], [2], [1, 3], [0, 4], [5]] (by kernel_rfl) (by kernel_rfl) ?_ ?_ ?_ ?_
      · intro V hV
        have hst1 : ∀ x : Value, GrowP.Stable (fun v _ => v = x) := fun x v w w' h _ => h
        have hst2 : GrowP.Stable (fun _ _ => False) := fun v w w' h _ => h
        simp only [List.mem_cons, List.not_mem_nil, or_false] at hV
        rcases hV with rfl | rfl | rfl | rfl | rfl | rfl | rfl
        all_goals first | exact hst1 _ | exact hst2
      · refine .cons (fun u w' hR hF => GrowP.gop_n rfl ?_) ?_
        · have hb' := hR.block (heap_alloc_new w1 _)
          have hx0 : w'.cell? ⟨w1.heap.size, 0, none⟩ = some (.int .u64 (a : Int)) := by rw [Lib.cell_of_heap hb']; rfl
          have hx1 : w'.cell? ⟨w1.heap.size, 1, none⟩ = some (.int .u64 (b : Int)) := by rw [Lib.cell_of_heap hb']; rfl
          go_simp
          exact GrowP.Grows.refl _
        refine .cons (fun u w' hR hF => GrowP.gop_n rfl ?_) ?_
        · go_simp
          exact GrowP.Grows.refl _
        refine .cons (fun u w' hR hF => GrowP.gop_n rfl ?_) ?_
        · go_simp
          exact GrowP.Grows.refl _
        refine .cons (fun u w' hR hF => GrowP.gop_n rfl ?_) ?_
        · have f2 : u 2 = .pointer (some ⟨g, 0, none⟩) := hF.1
          go_simp
          exact GrowP.Grows.refl _
        refine .cons (fun u w' hR hF => GrowP.gop_n rfl ?_) ?_
        · have f1 : u 1 = .pointer (some ⟨g, 0, none⟩) := hF.1
          have f3 : u 3 = .func (.func 55) #[.pointer (some ⟨g, 0, none⟩)] #[] := hF.2.1
          have HTW := Lib.hid (HTN.out w' hR)
          clear hF
          go_simp
          exact HTW.out.mono fun e w3 ⟨h1, h2⟩ => ⟨_, h1, rfl, h2⟩
        refine .cons (fun u w' hR hF => hF.2.1.elim) ?_
        exact .cons (fun u w' hR hF => hF.1.elim) .nil
      · intro w' hR
        refine .cons (fun x0 _ => ?_)
        refine .cons (fun x1 _ => ?_)
        refine .cons (fun x2 _ => ?_)
        refine .cons (fun x3 _ => ?_)
        exact .cons (fun x4 f4 => f4.elim)
      · rintro c a' w' hd ⟨rfl, ht⟩
        exact ⟨hd, by rw [E1.out]; exact ⟨rfl, ht⟩⟩
    | some x =>
      obtain ⟨ps, r2⟩ := x
      have E1 := Lib.hid (show entryP s = some (⟨a, b, ps⟩, r2) by unfold entryP mapP thenP; rw [HN1.out]; show ((listP pairP r).map _).map _ = _; rw [hb]; rfl)
      have HTY : Hid (Calls Try.prog 54 #[.pointer (some ⟨g, 0, none⟩), .func (.func 55) #[.pointer (some ⟨g, 0, none⟩)] #[]] (w1.alloc (.cells #[.int .u64 (a : Int), .int .u64 (b : Int)] 29)).drew fun e w' => ∃ A c, e = .returned (.slice A ps.length c) ∧ On_pairs w' (fun q => w1.heap.size + 1 ≤ q) (.slice A ps.length c) ps ∧ Rdr w' g r2 ∧ Turns g w w' ∧ w'.heap[w.heap.size]? = some (.cells #[.int .u64 0, .int .u64 0, .slice none 0 0] 106 (0, 0)) ∧ w'.heap[w1.heap.size]? = some (.cells #[.int .u64 (a : Int), .int .u64 (b : Int)] 29 (0, 0))) := Lib.hid ((HTK.out _ (GrowP.Grows.drew _)).mono fun e w' hg => by
        rw [hb] at hg
        obtain ⟨⟨v, h1, h2⟩, h3, h4⟩ := hg.some_of
        obtain ⟨A, c, rfl, _⟩ := id h2
        have hs1 := HT.out.size
        have hw := (Array.getElem?_eq_some_iff.1 HB.out).1
        exact ⟨A, c, h1, h2, h3, HT.out.trans (((Turns.alloc g w1 _).drewN 1).trans h4),
          (h4.block _ (by show _ < (w1.alloc _).heap.size; simp; omega) (by have := HG.out; omega)).trans ((heap_alloc_old w1 _ hw).trans HB.out),
          (h4.block _ (by show _ < (w1.alloc _).heap.size; simp) (by have := HG.out; omega)).trans (heap_alloc_new w1 _)⟩)
      have HNE : Hid (w.heap.size ≠ w1.heap.size) := Lib.hid (by have := (Array.getElem?_eq_some_iff.1 HB.out).1; omega)
      clear hb HTK
      have hx0 : (w1.alloc (.cells #[.int .u64 (a : Int), .int .u64 (b : Int)] 29)).cell? ⟨w1.heap.size, 0, none⟩ = some (.int .u64 (a : Int)) := by rw [Lib.cell_of_heap (heap_alloc_new w1 _)]; rfl
      have hx1 : (w1.alloc (.cells #[.int .u64 (a : Int), .int .u64 (b : Int)] 29)).cell? ⟨w1.heap.size, 1, none⟩ = some (.int .u64 (b : Int)) := by rw [Lib.cell_of_heap (heap_alloc_new w1 _)]; rfl
      go_region_held2 (fun W' : World => W'.cell? ⟨w1.heap.size, 0, none⟩ = some (.int .u64 (a : Int)) ∧ W'.cell? ⟨w1.heap.size, 1, none⟩ = some (.int .u64 (b : Int))) (first | exact ⟨hx0, hx1⟩ | exact ⟨hy0, hy1⟩ | (refine ⟨?_, ?_⟩ <;> ((iterate 3 rw [World.cell?_setCell_other _ _ _ _ (fun e => HNE.out (congrArg Addr.block e))]); (first | exact hy0 | exact hy1))) | go_keep) (first | (go_at_call 54; refine HTY.out.mono ?_; rintro e w3 ⟨A, c, rfl, hp3, hr3, ht3, hb3, hi3⟩; have HP3 := Lib.hid hp3; have HR3 := Lib.hid hr3; have HT3 := Lib.hid ht3; have HB3 := Lib.hid hb3; have hy0 : w3.cell? ⟨w1.heap.size, 0, none⟩ = some (.int .u64 (a : Int)) := (by rw [Lib.cell_of_heap hi3]; rfl); have hy1 : w3.cell? ⟨w1.heap.size, 1, none⟩ = some (.int .u64 (b : Int)) := (by rw [Lib.cell_of_heap hi3]; rfl); have hz0 : w3.cell? ⟨w.heap.size, 0, none⟩ = some (.int .u64 0) := (by rw [Lib.cell_of_heap hb3]; rfl); have hz1 : w3.cell? ⟨w.heap.size, 1, none⟩ = some (.int .u64 0) := (by rw [Lib.cell_of_heap hb3]; rfl); have hz2 : w3.cell? ⟨w.heap.size, 2, none⟩ = some (.slice none 0 0) := (by rw [Lib.cell_of_heap hb3]; rfl); have hf : ∀ j, w3.frozen? ⟨w.heap.size, j, none⟩ = false := (fun j => by simp [World.frozen?, hb3]); clear hp3 hr3 ht3 hb3 hi3))
      rw [set_three HB3.out]
      have HF := Lib.hid (fill_row (cs := #[.int .u64 (a : Int), .int .u64 (b : Int), .slice A ps.length c]) HT3.out HR3.out HB3.out (by have := HG.out; omega) (Nat.le_refl _))
      have HP4 : Hid (On_pairs (w3.setRow w.heap.size #[.int .u64 (a : Int), .int .u64 (b : Int), .slice A ps.length c]) (fun q => w.heap.size ≤ q) (.slice A ps.length c) ps) := Lib.hid ((HP3.out.keep (flat_el _) (by simp) (fun q hq _ => setRow_other w3 w.heap.size q _ (by have := HT.out.size; omega))).mono (flat_el _) (fun q _ hq => by have := HT.out.size; omega))
      clear hy0 hy1 hz0 hz1 hz2 hf hx0 hx1
      go_wp2_with fail
      refine bodyPost_ret (results_cell_row rfl _ _ w.heap.size 106 #[.int .u64 (a : Int), .int .u64 (b : Int), .slice A ps.length c] (0, 0) _ rfl HF.out.1 Try.underlying106 rfl entry_size) rfl ?_
      rw [E1.out]
      exact ⟨⟨_, rfl, _, rfl, HP4.out⟩, HF.out.2⟩
end Go.Proofs.Ytpnmhldaaaemeaa.Snp
/- Chapter 24: lists are read. Printed by gen_take24.py entries. -/
namespace Go.Proofs.Ytpnmhldaaaemeaa.Snp
open Go.RowKit Go.Proofs.Ytpnmhldaaaemeaa.Pin

theorem info_entries : (Try.prog.info? 106).map (fun i => (i.zero, i.size, i.bytes)) = some (some (.agg #[.int .u64 0, .int .u64 0, .slice none 0 0]), 3, 40) := by kernel_rfl
theorem entries_step {x : En} {s r : List UInt8} (h : entryP s = some (x, r)) : r.length + 1 ≤ s.length := by
  have h1 := (inv_entry.fwd _ _ _ h).2
  rw [h1, List.length_append]
  simp only [enB, idB, leB_len, List.length_append]
  omega
/-- a list of entries in memory -/
abbrev On_entries (w : World) (ok : Nat → Prop) (v : Value) (l : List En) : Prop := LOn 3 EnEl w ok v l
set_option maxHeartbeats 2000000 in
set_option maxRecDepth 100000 in
theorem take_entries (s : List UInt8) (g : Nat) (w : World) (h : Rdr w g s) (hs : s.length ≤ 549755813888) :
    Reads 74 #[.pointer (some ⟨g, 0, none⟩), .func (.func 75) #[.pointer (some ⟨g, 0, none⟩)] #[]] w g s (listP entryP) (fun l v w' => On_entries w' (fun r => w.heap.size ≤ r) v l) := by
  have HN := Lib.hid (number_rd 4 s g w h (by omega) (by decide))
  have HS := Lib.hid hs
  have HG := Lib.hid h.lt
  obtain ⟨i0, hi, hz0, hz1, hz2⟩ := info_parts info_entries
  have HI := Lib.hid hi
  have HZ0 := Lib.hid hz0
  have HZ1 := Lib.hid hz1
  have HZ2 := Lib.hid hz2
  unfold Reads
  clear h hs hi hz0 hz1 hz2
  go_enter Try.func74, Try.ntmps74
  go_wp2_with fail
  refine HN.out.mono ?_
  intro e w1 hg
  cases hn : numP 4 s with
  | none =>
    rw [hn] at hg
    obtain ⟨rfl, ht⟩ := hg.none_of
    have HT := Lib.hid ht
    have E1 := Lib.hid (show listP entryP s = none by unfold listP; rw [hn]; rfl)
    clear hg ht hn
    go_wp2_with fail
    exact ⟨rfl, by rw [E1.out]; exact ⟨rfl, HT.out⟩⟩
  | some x =>
    obtain ⟨N, r0⟩ := x
    rw [hn] at hg
    obtain ⟨⟨v, rfl, rfl⟩, hr, ht⟩ := hg.some_of
    have HT := Lib.hid ht
    have HR0 := Lib.hid hr
    obtain ⟨hn1, hn2⟩ := numP_len hn
    have HL := Lib.hid hn2
    have HNM := Lib.hid hn1
    have E0 := Lib.hid (show listP entryP s = manyP entryP N r0 by unfold listP; rw [hn]; rfl)
    clear hg ht hn hn1 hn2 hr
    go_wp2_with fail
    go_loopw [4, 5] (fun out n wr => ∃ (k : Nat) (ls : List En) (r : List UInt8), n = .int .u64 (k : Int) ∧ Hid (k < 256 ^ 4) ∧ Hid (manyP entryP N r0 = (manyP entryP k r).map (fun y => (ls ++ y.1, y.2))) ∧ Hid (Rdr wr g r) ∧ Hid (Turns g w wr) ∧ Hid (Acc 106 3 EnEl w.heap.size wr out ls) ∧ Hid (ls.length + r.length ≤ s.length)) (fun _ n _ => (intOf n).toNat)
    case atStart => exact ⟨N, [], r0, rfl, HNM, Lib.hid (by cases manyP entryP N r0 <;> rfl), HR0, HT, Lib.hid (acc_nil _), Lib.hid (by have := HL.out; simpa using this)⟩
    case round =>
      obtain ⟨k, ls, r, rfl, HKB, HM, HR, HTT, HA, HLE⟩ := hrel
      cases k with
      | zero =>
        obtain ⟨A, c, rfl⟩ := HA.out.slice
        go_wp2_with fail
        go_ret
        rw [E0.out, HM.out]
        exact ⟨⟨_, rfl, by rw [List.append_nil]; exact HA.out.lon (en_el)⟩, HR.out, HTT.out⟩
      | succ k =>
        have hlt : (0 : Int) < ((k + 1 : Nat) : Int) := by omega
        have hw : IntKind.u64.wrap (((k + 1 : Nat) : Int) - 1) = (k : Int) := by rw [IntKind.wrap_u64]; have := HKB.out; omega
        have hw' : IntKind.u64.wrap (k : Int) = (k : Int) := by rw [IntKind.wrap_u64]; have := HKB.out; omega
        have HRD := Lib.hid (entry_rd r g wr HR.out (by have := HLE.out; have := HS.out; omega))
        obtain ⟨A, c, rfl⟩ := HA.out.slice
        go_wp2_with fail
        refine HRD.out.mono ?_
        intro e w2 hg
        cases hb : entryP r with
        | none =>
          rw [hb] at hg
          obtain ⟨rfl, ht⟩ := hg.none_of
          have HT2 := Lib.hid (HTT.out.trans ht)
          have E1 := Lib.hid (show listP entryP s = none by rw [E0.out, HM.out]; simp only [manyP, hb]; rfl)
          clear hg ht hb
          go_wp2_with fail
          exact ⟨rfl, by rw [E1.out]; exact ⟨rfl, HT2.out⟩⟩
        | some x =>
          obtain ⟨x, r2⟩ := x
          rw [hb] at hg
          obtain ⟨⟨v, rfl, pv, rfl, hpv⟩, hr2, ht⟩ := hg.some_of
          obtain ⟨PA, PC, rfl, _⟩ := id hpv
          have HT2 := Lib.hid (HTT.out.trans ht)
          have HR2 := Lib.hid hr2
          have hst := entries_step hb
          have HLE2 : Hid ((ls ++ [x]).length + r2.length ≤ s.length) := Lib.hid (by have := HLE.out; simp only [List.length_append, List.length_cons, List.length_nil]; omega)
          have HM2 : Hid (manyP entryP N r0 = (manyP entryP k r2).map (fun y => ((ls ++ [x]) ++ y.1, y.2))) := Lib.hid (by
            rw [HM.out]
            simp only [manyP, hb, Option.bind_some]
            cases manyP entryP k r2 <;> simp)
          obtain ⟨css, c1, c2, c3⟩ := HA.out.turns (en_el) ht HG.out
          have HC2 := Lib.hid (c2.alloc (.cells #[.int .u64 (x.ms : Int), .int .u64 (x.seq : Int), (.slice PA x.pairs.length PC)] 106))
          have HOL : Hid (∀ q, (Value.slice A ls.length c).ownBlock = some q → q < wr.heap.size) := Lib.hid (fun q hq => by
            obtain ⟨css', _, d2, _⟩ := HA.out
            exact (d2.lt q hq).2)
          have HBB : Hid (w.heap.size ≤ (w2.alloc (.cells #[.int .u64 (x.ms : Int), .int .u64 (x.seq : Int), (.slice PA x.pairs.length PC)] 106)).heap.size) := Lib.hid (by have := HT2.out.size; simp; omega)
          have HLB : Hid (ls.length + 1 ≤ 549755813888) := Lib.hid (by have := HLE.out; have := HS.out; omega)
          have c2' := c2
          clear hg ht hb hr2 hst c2
          go_wp2_with (at_builtin; refine wpList_append_row _ rfl _ _ 26 rfl w.heap.size 106 i0 (.agg #[.int .u64 0, .int .u64 0, .slice none 0 0]) 3 40 Try.underlying26 HI.out HZ0.out HZ1.out HZ2.out rfl (by decide) _ _ _ rfl HC2.out ⟨w2.heap.size, 0, none⟩ 1 1 [.int .u64 (x.ms : Int), .int .u64 (x.seq : Int), (.slice PA x.pairs.length PC)] rfl rfl Nat.one_pos ?c1 ?c2 ?c3 ?c4 HBB.out ?_)
          case c1 => exact new_cells w2 [.int .u64 (x.ms : Int), .int .u64 (x.seq : Int), (.slice PA x.pairs.length PC)] 106
          case c2 => simp [Value.oneCell']
          case c3 => have := HLB.out; unfold maxLen; omega
          case c4 => have := HLB.out; omega
          intro out' w3 hown hgr hrow
          have HA3 := Lib.hid (Acc.app (en_el) c1 c3 HOL.out HTT.out.size (x := x) (cs := [.int .u64 (x.ms : Int), .int .u64 (x.seq : Int), (.slice PA x.pairs.length PC)]) ⟨_, rfl, hpv⟩ rfl hown hgr hrow)
          have HT3 : Hid (Turns g w w3) := Lib.hid (turns_grown HT2.out hgr (fun q hq => (c2'.lt q hq).1))
          have HR3 : Hid (Rdr w3 g r2) := Lib.hid ((hgr.block g (by have := HR2.out.lt; simp; omega) (fun e => by have := (c2'.lt g e.symm).1; have := HG.out; omega)).trans (HR2.out.alloc _))
          obtain ⟨A', c', rfl⟩ := HA3.out.slice
          clear hown hgr hrow c1 c2' c3
          go_wp2_with fail
          exact ⟨⟨k, ls ++ [x], r2, rfl, Lib.hid (by have := HKB.out; omega), HM2, HR3, HT3, HA3, HLE2⟩, by simp [intOf]⟩
end Go.Proofs.Ytpnmhldaaaemeaa.Snp
/- Chapter 24: a reader: values, by their kinds. Printed by gen_rdk24.py. -/
namespace Go.Proofs.Ytpnmhldaaaemeaa.Snp
open Go.RowKit Go.Proofs.Ytpnmhldaaaemeaa.Pin

/-- a value in memory -/
structure VOn (w : World) (ok : Nat → Prop) (c : Cl) (v : Va) : Prop where
  list : On_texts w ok c.lv v.list
  hash : On_pairs w ok c.hv v.hash
  set : On_texts w ok c.sv v.set
  zset : On_scoreds w ok c.zv v.zset
  stream : On_entries w ok c.ev v.stream
theorem VOn.keep {w w' : World} {ok : Nat → Prop} {c : Cl} {v : Va} (h : VOn w ok c v) (hs : w.heap.size ≤ w'.heap.size) (hk : ∀ r, ok r → r < w.heap.size → w'.heap[r]? = w.heap[r]?) : VOn w' ok c v :=
  ⟨h.list.keep (flat_el _) hs hk, h.hash.keep (flat_el _) hs hk, h.set.keep (flat_el _) hs hk, h.zset.keep (flat_el _) hs hk, h.stream.keep en_el hs hk⟩
theorem VOn.mono {w : World} {ok ok' : Nat → Prop} {c : Cl} {v : Va} (h : VOn w ok c v) (hk : ∀ r, r < w.heap.size → ok r → ok' r) : VOn w ok' c v :=
  ⟨h.list.mono (flat_el _) hk, h.hash.mono (flat_el _) hk, h.set.mono (flat_el _) hk, h.zset.mono (flat_el _) hk, h.stream.mono en_el hk⟩
theorem lon_nil {α : Type} {C : Nat} {El : World → (Nat → Prop) → α → List Value → Prop} (w : World) (ok : Nat → Prop) : LOn C El w ok (.slice none 0 0) [] := ⟨none, 0, rfl, fun h => absurd h (Nat.lt_irrefl _)⟩
abbrev nilS : Value := .slice none 0 0
def VaV (w : World) (v : Va) (u : Value) (w' : World) : Prop := ∃ c : Cl, u = vV v c ∧ VOn w' (fun r => w.heap.size ≤ r) c v
theorem value_size : (Try.prog.info? 31).map (·.size) = some 9 := by kernel_rfl
abbrev zeroVa : Array Value := #[.int .u8 0, .string ⟨#[]⟩, nilS, nilS, nilS, nilS, nilS, .int .u64 0, .int .u64 0]
set_option maxHeartbeats 1000000 in
set_option maxRecDepth 100000 in
theorem take_k1 (s : List UInt8) (g : Nat) (w : World) (h : Rdr w g s) (hs : s.length ≤ 549755813888) : Reads 37 #[.pointer (some ⟨g, 0, none⟩)] w g s (valP 1) (VaV w) := by
  have HN := Lib.hid (text_rd s g (w.alloc (.cells zeroVa 31)) (h.alloc _) (by omega))
  have HG := Lib.hid h.lt
  unfold Reads
  clear h hs
  go_enter Try.func37, Try.ntmps37
  go_wp2_with fail
  refine HN.out.mono ?_
  intro e w1 hg
  cases hn : textP s with
  | none =>
    rw [hn] at hg
    obtain ⟨rfl, ht⟩ := hg.none_of
    have HT := Lib.hid ((Turns.alloc g w _).trans ht)
    have E1 := Lib.hid (show valP 1 s = none by show (textP s).map _ = none; rw [hn]; rfl)
    clear hg ht hn
    go_wp2_with fail
    exact ⟨rfl, by rw [E1.out]; exact ⟨rfl, HT.out⟩⟩
  | some x =>
    obtain ⟨a, r⟩ := x
    rw [hn] at hg
    obtain ⟨⟨v, rfl, rfl⟩, hr2, ht⟩ := hg.some_of
    have HB := Lib.hid ((ht.block w.heap.size (by simp) (by have := HG.out; omega)).trans (heap_alloc_new w _))
    have HF := Lib.hid (fill_row (cs := #[.int .u8 1, .string a, nilS, nilS, nilS, nilS, nilS, .int .u64 0, .int .u64 0]) ((Turns.alloc g w _).trans ht) hr2 HB.out (by have := HG.out; omega) (Nat.le_refl _))
    have E1 := Lib.hid (show valP 1 s = some ({ va0 with kind := 1, text := a }, r) by show (textP s).map _ = _; rw [hn]; rfl)
    have HO : Hid ((#[.int .u8 1, .string a, nilS, nilS, nilS, nilS, nilS, .int .u64 0, .int .u64 0] : Array Value).all (·.oneCell') = true) := Lib.hid (by simp [Value.oneCell'])
    clear hg ht hn hr2
    go_wp2_with (refine wpList_store_row rfl 31 (.tmp 2) (.tmp 5) (by rfl) w.heap.size #[.int .u8 1, .string a, nilS, nilS, nilS, nilS, nilS, .int .u64 0, .int .u64 0] (by rfl) (by rfl) 31 zeroVa HB.out value_size rfl HO.out ?_)
    refine bodyPost_ret (results_cell_row rfl _ _ w.heap.size 31 #[.int .u8 1, .string a, nilS, nilS, nilS, nilS, nilS, .int .u64 0, .int .u64 0] (0, 0) _ rfl HF.out.1 Try.underlying31 rfl value_size) rfl ?_
    rw [E1.out]
    exact ⟨⟨_, rfl, ⟨nilS, nilS, nilS, nilS, nilS⟩, rfl, ⟨lon_nil _ _, lon_nil _ _, lon_nil _ _, lon_nil _ _, lon_nil _ _⟩⟩, HF.out.2⟩
set_option maxHeartbeats 1000000 in
set_option maxRecDepth 100000 in
theorem take_k2 (s : List UInt8) (g : Nat) (w : World) (h : Rdr w g s) (hs : s.length ≤ 549755813888) : Reads 44 #[.pointer (some ⟨g, 0, none⟩)] w g s (valP 2) (VaV w) := by
  have HN := Lib.hid (take_texts s g (w.alloc (.cells zeroVa 31)) (h.alloc _) hs)
  have HG := Lib.hid h.lt
  unfold Reads
  clear h hs
  go_enter Try.func44, Try.ntmps44
  go_wp2_with fail
  refine HN.out.mono ?_
  intro e w1 hg
  cases hn : (listP textP) s with
  | none =>
    rw [hn] at hg
    obtain ⟨rfl, ht⟩ := hg.none_of
    have HT := Lib.hid ((Turns.alloc g w _).trans ht)
    have E1 := Lib.hid (show valP 2 s = none by show ((listP textP) s).map _ = none; rw [hn]; rfl)
    clear hg ht hn
    go_wp2_with fail
    exact ⟨rfl, by rw [E1.out]; exact ⟨rfl, HT.out⟩⟩
  | some x =>
    obtain ⟨a, r⟩ := x
    rw [hn] at hg
    obtain ⟨⟨v, rfl, hp⟩, hr2, ht⟩ := hg.some_of
    obtain ⟨A, c, rfl, _⟩ := id hp
    have HB := Lib.hid ((ht.block w.heap.size (by simp) (by have := HG.out; omega)).trans (heap_alloc_new w _))
    have HF := Lib.hid (fill_row (cs := #[.int .u8 2, .string ⟨#[]⟩, (.slice A a.length c), nilS, nilS, nilS, nilS, .int .u64 0, .int .u64 0]) ((Turns.alloc g w _).trans ht) hr2 HB.out (by have := HG.out; omega) (Nat.le_refl _))
    have E1 := Lib.hid (show valP 2 s = some ({ va0 with kind := 2, list := a }, r) by show ((listP textP) s).map _ = _; rw [hn]; rfl)
    have HP := Lib.hid ((hp.keep (flat_el _) (w' := w1.setRow w.heap.size #[.int .u8 2, .string ⟨#[]⟩, (.slice A a.length c), nilS, nilS, nilS, nilS, .int .u64 0, .int .u64 0]) (by simp) (fun q hq _ => setRow_other w1 w.heap.size q _ (by simp at hq; omega))).mono (flat_el _) (ok' := fun q => w.heap.size ≤ q) (fun q _ hq => by simp at hq; omega))
    have HO : Hid ((#[.int .u8 2, .string ⟨#[]⟩, (.slice A a.length c), nilS, nilS, nilS, nilS, .int .u64 0, .int .u64 0] : Array Value).all (·.oneCell') = true) := Lib.hid (by simp [Value.oneCell'])
    clear hg ht hn hr2 hp
    go_wp2_with (refine wpList_store_row rfl 31 (.tmp 2) (.tmp 7) (by rfl) w.heap.size #[.int .u8 2, .string ⟨#[]⟩, (.slice A a.length c), nilS, nilS, nilS, nilS, .int .u64 0, .int .u64 0] (by rfl) (by rfl) 31 zeroVa HB.out value_size rfl HO.out ?_)
    refine bodyPost_ret (results_cell_row rfl _ _ w.heap.size 31 #[.int .u8 2, .string ⟨#[]⟩, (.slice A a.length c), nilS, nilS, nilS, nilS, .int .u64 0, .int .u64 0] (0, 0) _ rfl HF.out.1 Try.underlying31 rfl value_size) rfl ?_
    rw [E1.out]
    exact ⟨⟨_, rfl, ⟨(.slice A a.length c), nilS, nilS, nilS, nilS⟩, rfl, ⟨HP.out, lon_nil _ _, lon_nil _ _, lon_nil _ _, lon_nil _ _⟩⟩, HF.out.2⟩
set_option maxHeartbeats 1000000 in
set_option maxRecDepth 100000 in
theorem take_k3 (s : List UInt8) (g : Nat) (w : World) (h : Rdr w g s) (hs : s.length ≤ 549755813888) : Reads 53 #[.pointer (some ⟨g, 0, none⟩)] w g s (valP 3) (VaV w) := by
  have HN := Lib.hid (take_pairs s g (w.alloc (.cells zeroVa 31)) (h.alloc _) hs)
  have HG := Lib.hid h.lt
  unfold Reads
  clear h hs
  go_enter Try.func53, Try.ntmps53
  go_wp2_with fail
  refine HN.out.mono ?_
  intro e w1 hg
  cases hn : (listP pairP) s with
  | none =>
    rw [hn] at hg
    obtain ⟨rfl, ht⟩ := hg.none_of
    have HT := Lib.hid ((Turns.alloc g w _).trans ht)
    have E1 := Lib.hid (show valP 3 s = none by show ((listP pairP) s).map _ = none; rw [hn]; rfl)
    clear hg ht hn
    go_wp2_with fail
    exact ⟨rfl, by rw [E1.out]; exact ⟨rfl, HT.out⟩⟩
  | some x =>
    obtain ⟨a, r⟩ := x
    rw [hn] at hg
    obtain ⟨⟨v, rfl, hp⟩, hr2, ht⟩ := hg.some_of
    obtain ⟨A, c, rfl, _⟩ := id hp
    have HB := Lib.hid ((ht.block w.heap.size (by simp) (by have := HG.out; omega)).trans (heap_alloc_new w _))
    have HF := Lib.hid (fill_row (cs := #[.int .u8 3, .string ⟨#[]⟩, nilS, (.slice A a.length c), nilS, nilS, nilS, .int .u64 0, .int .u64 0]) ((Turns.alloc g w _).trans ht) hr2 HB.out (by have := HG.out; omega) (Nat.le_refl _))
    have E1 := Lib.hid (show valP 3 s = some ({ va0 with kind := 3, hash := a }, r) by show ((listP pairP) s).map _ = _; rw [hn]; rfl)
    have HP := Lib.hid ((hp.keep (flat_el _) (w' := w1.setRow w.heap.size #[.int .u8 3, .string ⟨#[]⟩, nilS, (.slice A a.length c), nilS, nilS, nilS, .int .u64 0, .int .u64 0]) (by simp) (fun q hq _ => setRow_other w1 w.heap.size q _ (by simp at hq; omega))).mono (flat_el _) (ok' := fun q => w.heap.size ≤ q) (fun q _ hq => by simp at hq; omega))
    have HO : Hid ((#[.int .u8 3, .string ⟨#[]⟩, nilS, (.slice A a.length c), nilS, nilS, nilS, .int .u64 0, .int .u64 0] : Array Value).all (·.oneCell') = true) := Lib.hid (by simp [Value.oneCell'])
    clear hg ht hn hr2 hp
    go_wp2_with (refine wpList_store_row rfl 31 (.tmp 2) (.tmp 7) (by rfl) w.heap.size #[.int .u8 3, .string ⟨#[]⟩, nilS, (.slice A a.length c), nilS, nilS, nilS, .int .u64 0, .int .u64 0] (by rfl) (by rfl) 31 zeroVa HB.out value_size rfl HO.out ?_)
    refine bodyPost_ret (results_cell_row rfl _ _ w.heap.size 31 #[.int .u8 3, .string ⟨#[]⟩, nilS, (.slice A a.length c), nilS, nilS, nilS, .int .u64 0, .int .u64 0] (0, 0) _ rfl HF.out.1 Try.underlying31 rfl value_size) rfl ?_
    rw [E1.out]
    exact ⟨⟨_, rfl, ⟨nilS, (.slice A a.length c), nilS, nilS, nilS⟩, rfl, ⟨lon_nil _ _, HP.out, lon_nil _ _, lon_nil _ _, lon_nil _ _⟩⟩, HF.out.2⟩
set_option maxHeartbeats 1000000 in
set_option maxRecDepth 100000 in
theorem take_k4 (s : List UInt8) (g : Nat) (w : World) (h : Rdr w g s) (hs : s.length ≤ 549755813888) : Reads 59 #[.pointer (some ⟨g, 0, none⟩)] w g s (valP 4) (VaV w) := by
  have HN := Lib.hid (take_texts s g (w.alloc (.cells zeroVa 31)) (h.alloc _) hs)
  have HG := Lib.hid h.lt
  unfold Reads
  clear h hs
  go_enter Try.func59, Try.ntmps59
  go_wp2_with fail
  refine HN.out.mono ?_
  intro e w1 hg
  cases hn : (listP textP) s with
  | none =>
    rw [hn] at hg
    obtain ⟨rfl, ht⟩ := hg.none_of
    have HT := Lib.hid ((Turns.alloc g w _).trans ht)
    have E1 := Lib.hid (show valP 4 s = none by show ((listP textP) s).map _ = none; rw [hn]; rfl)
    clear hg ht hn
    go_wp2_with fail
    exact ⟨rfl, by rw [E1.out]; exact ⟨rfl, HT.out⟩⟩
  | some x =>
    obtain ⟨a, r⟩ := x
    rw [hn] at hg
    obtain ⟨⟨v, rfl, hp⟩, hr2, ht⟩ := hg.some_of
    obtain ⟨A, c, rfl, _⟩ := id hp
    have HB := Lib.hid ((ht.block w.heap.size (by simp) (by have := HG.out; omega)).trans (heap_alloc_new w _))
    have HF := Lib.hid (fill_row (cs := #[.int .u8 4, .string ⟨#[]⟩, nilS, nilS, (.slice A a.length c), nilS, nilS, .int .u64 0, .int .u64 0]) ((Turns.alloc g w _).trans ht) hr2 HB.out (by have := HG.out; omega) (Nat.le_refl _))
    have E1 := Lib.hid (show valP 4 s = some ({ va0 with kind := 4, set := a }, r) by show ((listP textP) s).map _ = _; rw [hn]; rfl)
    have HP := Lib.hid ((hp.keep (flat_el _) (w' := w1.setRow w.heap.size #[.int .u8 4, .string ⟨#[]⟩, nilS, nilS, (.slice A a.length c), nilS, nilS, .int .u64 0, .int .u64 0]) (by simp) (fun q hq _ => setRow_other w1 w.heap.size q _ (by simp at hq; omega))).mono (flat_el _) (ok' := fun q => w.heap.size ≤ q) (fun q _ hq => by simp at hq; omega))
    have HO : Hid ((#[.int .u8 4, .string ⟨#[]⟩, nilS, nilS, (.slice A a.length c), nilS, nilS, .int .u64 0, .int .u64 0] : Array Value).all (·.oneCell') = true) := Lib.hid (by simp [Value.oneCell'])
    clear hg ht hn hr2 hp
    go_wp2_with (refine wpList_store_row rfl 31 (.tmp 2) (.tmp 7) (by rfl) w.heap.size #[.int .u8 4, .string ⟨#[]⟩, nilS, nilS, (.slice A a.length c), nilS, nilS, .int .u64 0, .int .u64 0] (by rfl) (by rfl) 31 zeroVa HB.out value_size rfl HO.out ?_)
    refine bodyPost_ret (results_cell_row rfl _ _ w.heap.size 31 #[.int .u8 4, .string ⟨#[]⟩, nilS, nilS, (.slice A a.length c), nilS, nilS, .int .u64 0, .int .u64 0] (0, 0) _ rfl HF.out.1 Try.underlying31 rfl value_size) rfl ?_
    rw [E1.out]
    exact ⟨⟨_, rfl, ⟨nilS, nilS, (.slice A a.length c), nilS, nilS⟩, rfl, ⟨lon_nil _ _, lon_nil _ _, HP.out, lon_nil _ _, lon_nil _ _⟩⟩, HF.out.2⟩
set_option maxHeartbeats 1000000 in
set_option maxRecDepth 100000 in
theorem take_k5 (s : List UInt8) (g : Nat) (w : World) (h : Rdr w g s) (hs : s.length ≤ 549755813888) : Reads 64 #[.pointer (some ⟨g, 0, none⟩)] w g s (valP 5) (VaV w) := by
  have HN := Lib.hid (take_scoreds s g (w.alloc (.cells zeroVa 31)) (h.alloc _) hs)
  have HG := Lib.hid h.lt
  unfold Reads
  clear h hs
  go_enter Try.func64, Try.ntmps64
  go_wp2_with fail
  refine HN.out.mono ?_
  intro e w1 hg
  cases hn : (listP scP) s with
  | none =>
    rw [hn] at hg
    obtain ⟨rfl, ht⟩ := hg.none_of
    have HT := Lib.hid ((Turns.alloc g w _).trans ht)
    have E1 := Lib.hid (show valP 5 s = none by show ((listP scP) s).map _ = none; rw [hn]; rfl)
    clear hg ht hn
    go_wp2_with fail
    exact ⟨rfl, by rw [E1.out]; exact ⟨rfl, HT.out⟩⟩
  | some x =>
    obtain ⟨a, r⟩ := x
    rw [hn] at hg
    obtain ⟨⟨v, rfl, hp⟩, hr2, ht⟩ := hg.some_of
    obtain ⟨A, c, rfl, _⟩ := id hp
    have HB := Lib.hid ((ht.block w.heap.size (by simp) (by have := HG.out; omega)).trans (heap_alloc_new w _))
    have HF := Lib.hid (fill_row (cs := #[.int .u8 5, .string ⟨#[]⟩, nilS, nilS, nilS, (.slice A a.length c), nilS, .int .u64 0, .int .u64 0]) ((Turns.alloc g w _).trans ht) hr2 HB.out (by have := HG.out; omega) (Nat.le_refl _))
    have E1 := Lib.hid (show valP 5 s = some ({ va0 with kind := 5, zset := a }, r) by show ((listP scP) s).map _ = _; rw [hn]; rfl)
    have HP := Lib.hid ((hp.keep (flat_el _) (w' := w1.setRow w.heap.size #[.int .u8 5, .string ⟨#[]⟩, nilS, nilS, nilS, (.slice A a.length c), nilS, .int .u64 0, .int .u64 0]) (by simp) (fun q hq _ => setRow_other w1 w.heap.size q _ (by simp at hq; omega))).mono (flat_el _) (ok' := fun q => w.heap.size ≤ q) (fun q _ hq => by simp at hq; omega))
    have HO : Hid ((#[.int .u8 5, .string ⟨#[]⟩, nilS, nilS, nilS, (.slice A a.length c), nilS, .int .u64 0, .int .u64 0] : Array Value).all (·.oneCell') = true) := Lib.hid (by simp [Value.oneCell'])
    clear hg ht hn hr2 hp
    go_wp2_with (refine wpList_store_row rfl 31 (.tmp 2) (.tmp 7) (by rfl) w.heap.size #[.int .u8 5, .string ⟨#[]⟩, nilS, nilS, nilS, (.slice A a.length c), nilS, .int .u64 0, .int .u64 0] (by rfl) (by rfl) 31 zeroVa HB.out value_size rfl HO.out ?_)
    refine bodyPost_ret (results_cell_row rfl _ _ w.heap.size 31 #[.int .u8 5, .string ⟨#[]⟩, nilS, nilS, nilS, (.slice A a.length c), nilS, .int .u64 0, .int .u64 0] (0, 0) _ rfl HF.out.1 Try.underlying31 rfl value_size) rfl ?_
    rw [E1.out]
    exact ⟨⟨_, rfl, ⟨nilS, nilS, nilS, (.slice A a.length c), nilS⟩, rfl, ⟨lon_nil _ _, lon_nil _ _, lon_nil _ _, HP.out, lon_nil _ _⟩⟩, HF.out.2⟩
set_option maxHeartbeats 1000000 in
set_option maxRecDepth 100000 in
theorem take_k6 (s : List UInt8) (g : Nat) (w : World) (h : Rdr w g s) (hs : s.length ≤ 549755813888) : Reads 72 #[.pointer (some ⟨g, 0, none⟩)] w g s (valP 6) (VaV w) := by
  have HN := Lib.hid (id_rd s g (w.alloc (.cells zeroVa 31)) (h.alloc _) (by omega))
  have HS := Lib.hid hs
  have HG := Lib.hid h.lt
  unfold Reads
  clear h hs
  go_enter Try.func72, Try.ntmps72
  go_wp2_with fail
  refine HN.out.mono ?_
  intro e w1 hg
  cases hn : idP s with
  | none =>
    rw [hn] at hg
    obtain ⟨rfl, ht⟩ := hg.none_of
    have HT := Lib.hid ((Turns.alloc g w _).trans ht)
    have E1 := Lib.hid (show valP 6 s = none by show (thenP idP (listP entryP) s).map _ = none; unfold thenP; rw [hn]; rfl)
    clear hg ht hn
    go_wp2_with fail
    exact ⟨rfl, by rw [E1.out]; exact ⟨rfl, HT.out⟩⟩
  | some x =>
    obtain ⟨⟨i, j⟩, r⟩ := x
    rw [hn] at hg
    obtain ⟨⟨v, rfl, rfl⟩, hr, ht⟩ := hg.some_of
    have HT := Lib.hid ((Turns.alloc g w _).trans ht)
    have HB := Lib.hid ((ht.block w.heap.size (by simp) (by have := HG.out; omega)).trans (heap_alloc_new w _))
    have HTK := Lib.hid (take_entries r g w1 hr (by have := HS.out; have := idP_len hn; omega))
    have HN1 := Lib.hid hn
    clear hg ht hn hr
    go_wp2_with fail
    refine HTK.out.mono ?_
    intro e w2 hg
    cases hb : listP entryP r with
    | none =>
      rw [hb] at hg
      obtain ⟨rfl, ht⟩ := hg.none_of
      have HT2 := Lib.hid (HT.out.trans ht)
      have E1 := Lib.hid (show valP 6 s = none by show (thenP idP (listP entryP) s).map _ = none; unfold thenP; rw [HN1.out]; show ((listP entryP r).map _).map _ = none; rw [hb]; rfl)
      clear hg ht hb
      go_wp2_with fail
      exact ⟨rfl, by rw [E1.out]; exact ⟨rfl, HT2.out⟩⟩
    | some x =>
      obtain ⟨a, r2⟩ := x
      rw [hb] at hg
      obtain ⟨⟨v, rfl, hp⟩, hr2, ht⟩ := hg.some_of
      obtain ⟨A, c, rfl, _⟩ := id hp
      have HB2 := Lib.hid ((ht.block w.heap.size (Array.getElem?_eq_some_iff.1 HB.out).1 (by have := HG.out; omega)).trans HB.out)
      have hlt : w.heap.size < w1.heap.size := (Array.getElem?_eq_some_iff.1 HB.out).1
      have HF := Lib.hid (fill_row (cs := #[.int .u8 6, .string ⟨#[]⟩, nilS, nilS, nilS, nilS, .slice A a.length c, .int .u64 (i : Int), .int .u64 (j : Int)]) (HT.out.trans ht) hr2 HB2.out (by have := HG.out; omega) (Nat.le_refl _))
      have E1 := Lib.hid (show valP 6 s = some ({ va0 with kind := 6, stream := a, ms := i, seq := j }, r2) by show (thenP idP (listP entryP) s).map _ = _; unfold thenP; rw [HN1.out]; show ((listP entryP r).map _).map _ = _; rw [hb]; rfl)
      have HP := Lib.hid ((hp.keep en_el (w' := w2.setRow w.heap.size #[.int .u8 6, .string ⟨#[]⟩, nilS, nilS, nilS, nilS, .slice A a.length c, .int .u64 (i : Int), .int .u64 (j : Int)]) (by simp) (fun q hq _ => setRow_other w2 w.heap.size q _ (by omega))).mono en_el (ok' := fun q => w.heap.size ≤ q) (fun q _ hq => by omega))
      have HO : Hid ((#[.int .u8 6, .string ⟨#[]⟩, nilS, nilS, nilS, nilS, .slice A a.length c, .int .u64 (i : Int), .int .u64 (j : Int)] : Array Value).all (·.oneCell') = true) := Lib.hid (by simp [Value.oneCell'])
      clear hg ht hb hr2 hp hlt
      go_wp2_with (refine wpList_store_row rfl 31 (.tmp 2) (.tmp 9) (by rfl) w.heap.size #[.int .u8 6, .string ⟨#[]⟩, nilS, nilS, nilS, nilS, .slice A a.length c, .int .u64 (i : Int), .int .u64 (j : Int)] (by rfl) (by rfl) 31 zeroVa HB2.out value_size rfl HO.out ?_)
      refine bodyPost_ret (results_cell_row rfl _ _ w.heap.size 31 #[.int .u8 6, .string ⟨#[]⟩, nilS, nilS, nilS, nilS, .slice A a.length c, .int .u64 (i : Int), .int .u64 (j : Int)] (0, 0) _ rfl HF.out.1 Try.underlying31 rfl value_size) rfl ?_
      rw [E1.out]
      exact ⟨⟨_, rfl, ⟨nilS, nilS, nilS, nilS, .slice A a.length c⟩, rfl, ⟨lon_nil _ _, lon_nil _ _, lon_nil _ _, lon_nil _ _, HP.out⟩⟩, HF.out.2⟩
def takeF (k : Nat) : FuncId := match k with
  | 1 => 37
  | 2 => 44
  | 3 => 53
  | 4 => 59
  | 5 => 64
  | _ => 72
theorem take_enter (k : Nat) (h1 : 1 ≤ k) (h6 : k ≤ 6) (args : Array Value) (w : World) : (callFunc (takeF k) args).run Try.prog w = .ok (.enter (takeF k) args) w := by
  have hk : k = 1 ∨ k = 2 ∨ k = 3 ∨ k = 4 ∨ k = 5 ∨ k = 6 := by omega
  rcases hk with rfl | rfl | rfl | rfl | rfl | rfl <;> (simp only [takeF]; go_simp)
set_option maxRecDepth 100000 in
theorem take_any (k : Nat) (h1 : 1 ≤ k) (h6 : k ≤ 6) (s : List UInt8) (g : Nat) (w : World) (h : Rdr w g s) (hs : s.length ≤ 549755813888) : Reads (takeF k) #[.pointer (some ⟨g, 0, none⟩)] w g s (valP k) (VaV w) := by
  have hk : k = 1 ∨ k = 2 ∨ k = 3 ∨ k = 4 ∨ k = 5 ∨ k = 6 := by omega
  rcases hk with rfl | rfl | rfl | rfl | rfl | rfl
  · exact take_k1 s g w h hs
  · exact take_k2 s g w h hs
  · exact take_k3 s g w h hs
  · exact take_k4 s g w h hs
  · exact take_k5 s g w h hs
  · exact take_k6 s g w h hs
end Go.Proofs.Ytpnmhldaaaemeaa.Snp
