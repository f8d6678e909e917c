/- Chapter 24: the map of the members that were seen; may a sorted set's member be. -/
import Derived.Test.YtpnmhldaaaemeaaRisE24
import Derived.Test.YtpnmhldaaaemeaaMapS
namespace Go.Proofs.Ytpnmhldaaaemeaa.Mps
open Go Go.MapKept
section
variable {P : Program} {w : World} {M : Nat} {t k e : TypeId} {ps : List (ByteArray × Value)}
theorem seek_get (nm : ByteArray) : ∀ (ps : List (ByteArray × Value)) (i a : Nat) (v : Value), seek nm ps i = some (a, v) → ∃ j, a = i + j ∧ ps[j]? = some (nm, v)
  | [], _, _, _, h => by cases h
  | p :: r, i, a, v, h => by
    unfold seek at h
    cases hq : (nm == p.1) with
    | true =>
      rw [hq] at h
      simp only [if_true, Option.some.injEq, Prod.mk.injEq] at h
      have e := (MapKept.bytes_beq _ _).1 hq
      refine ⟨0, by omega, ?_⟩
      rw [← h.2, e]
      rfl
    | false =>
      rw [hq] at h
      simp only [Bool.false_eq_true, if_false] at h
      obtain ⟨j, h1, h2⟩ := seek_get nm r (i + 1) a v h
      exact ⟨j + 1, by omega, h2⟩
/-- 'm[nm] = v', nm there: only the map turns -/
theorem put_old (ht : P.underlying t = some (.map k e)) (hk : P.underlying k = some .string) (h : MapAt w M ps) (nm : ByteArray) (v : Value) {i : Nat} {v0 : Value} (hn : seek nm ps 0 = some (i, v0)) :
    ∃ w', (Instr.mapUpdate t (.map (some M)) (.string nm) v).run P w = .ok () w' ∧ OnlyMap w w' M := by
  obtain ⟨es, clock, hb, he, hS⟩ := h
  have hs := run_seek (w := w) hk he nm
  rw [hn] at hs
  obtain ⟨j, h1, h2⟩ := seek_get nm ps 0 i v0 hn
  have h3 : (es.toList.map (fun x => (x.key, x.val)))[i]? = some (Value.string nm, v0) := by
    rw [he, List.getElem?_map, show i = j by omega, h2]
    rfl
  rw [List.getElem?_map] at h3
  have h4 : ∃ x, es[i]? = some x ∧ x.key = .string nm := by
    rw [← Array.getElem?_toList]
    cases hq : es.toList[i]? with
    | none => rw [hq] at h3; cases h3
    | some x =>
      rw [hq] at h3
      simp only [Option.map_some, Option.some.injEq, Prod.mk.injEq] at h3
      exact ⟨x, rfl, h3.1⟩
  obtain ⟨x, h5, h6⟩ := h4
  have h7 : (Instr.keyThatStays (((es[i]?).map (·.key)).getD (.string nm)) (.string nm)).run P w = .ok (.string nm) w := by
    rw [h5]
    have hbb : (nm == nm) = true := (MapKept.bytes_beq _ _).2 rfl
    simp [Instr.keyThatStays, h6, Instr.sameBits, hbb]
  refine ⟨{ w with heap := w.heap.setIfInBounds M (.map (es.modify i fun e => { e with key := .string nm, val := v }) clock) }, ?_, set_only hb⟩
  simp only [Instr.mapUpdate, run_underlying ht, Sem.run_bind, Result.andThen, MapKept.run_getObj_map hb, run_chk hk, hs, h7, run_setObj_map _ hb]
end
end Go.Proofs.Ytpnmhldaaaemeaa.Mps
namespace Go.Proofs.Ytpnmhldaaaemeaa.Snp
open Go.RowKit Go.Proofs.Ytpnmhldaaaemeaa.Pin Go.Proofs.Ytpnmhldaaaemeaa.Mps

def ScP (m : Sc) : Prop := MayP m.1 ∧ FEq m.2 m.2 ∧ (¬ FEq m.2 0 ∨ m.2 < 9223372036854775808)
def SaheadP (a b : Sc) : Prop := FLt a.2 b.2 ∨ FEq a.2 b.2 ∧ LtS a.1 b.1
/-- the map of what was seen -/
def SeenAt (w : World) (M : Nat) (ns : List ByteArray) : Prop := MapAt w M (ns.map fun n => (n, .bool true))
theorem zero_bool (w : World) : (zeroValue 4).run Try.prog w = .ok (.bool false) w := by kernel_rfl
theorem seen_yes {nm : ByteArray} : ∀ {ns : List ByteArray} {i : Nat}, nm ∈ ns → ∃ j, seek nm (ns.map fun n => (n, Value.bool true)) i = some (j, .bool true)
  | n :: ns, i, h => by
    rw [List.map_cons]
    unfold seek
    cases hq : (nm == n) with
    | true => exact ⟨i, rfl⟩
    | false =>
      rcases List.mem_cons.1 h with e | h
      · rw [e, (MapKept.bytes_beq _ _).2 rfl] at hq
        cases hq
      · exact seen_yes h
theorem seen_no {nm : ByteArray} : ∀ {ns : List ByteArray} {i : Nat}, nm ∉ ns → seek nm (ns.map fun n => (n, Value.bool true)) i = none
  | [], _, _ => rfl
  | n :: ns, i, h => by
    rw [List.map_cons]
    unfold seek
    cases hq : (nm == n) with
    | true => exact absurd (by rw [(MapKept.bytes_beq _ _).1 hq]; simp) h
    | false => exact seen_no (fun hm => h (by simp [hm]))
theorem seen_look {w : World} {M : Nat} {ns : List ByteArray} (h : SeenAt w M ns) (nm : ByteArray) :
    (nm ∈ ns → (Instr.lookup 120 (.map (some M)) (.string nm) false).run Try.prog w = .ok (.bool true) w) ∧ (nm ∉ ns → (Instr.lookup 120 (.map (some M)) (.string nm) false).run Try.prog w = .ok (.bool false) w) := by
  have hl := Mps.look (w := w) (P := Try.prog) Try.underlying120 Try.underlying9 (zero_bool w) h nm
  refine ⟨fun hm => ?_, fun hm => ?_⟩
  · obtain ⟨j, hs⟩ := seen_yes (i := 0) hm
    rw [hs] at hl
    exact hl
  · rw [seen_no hm] at hl
    exact hl
theorem wpList_seen {ops : Array Oper} {rest : List Oper} {o : Oper} {a : Act} {Q : Exit → Act → World → Prop} (w : World) (hgd : o.guard = none) (m x v : Operand) (hop : o.op = Op.mapUpdate 120 m x v) (M : Nat) (ns : List ByteArray) (nm : ByteArray)
    (hm : a.eval m = .map (some M)) (hx : a.eval x = .string nm) (hv : a.eval v = .bool true) (h : SeenAt w M ns)
    (hK : ∀ w', (nm ∉ ns → SeenAt w' M (ns ++ [nm])) → OnlyMap w w' M → wpList Try.prog ops Q rest (a.put o.dst undef) w') : wpList Try.prog ops Q (o :: rest) a w := by
  refine wpList_plain hgd fun K' hK' => ?_
  by_cases hn : nm ∈ ns
  · obtain ⟨j, hs⟩ := seen_yes (i := 0) hn
    obtain ⟨w', hrun, r2⟩ := put_old (P := Try.prog) Try.underlying120 Try.underlying9 h nm (.bool true) hs
    unfold Oper.wp
    simp [execOp, hop, hm, hx, hv, hrun, Result.andThen]
    exact hK' _ _ (hK w' (fun h => absurd hn h) r2)
  · obtain ⟨w', hrun, r1, r2⟩ := put_new (P := Try.prog) Try.underlying120 Try.underlying9 h nm (.bool true) (seen_no hn)
    unfold Oper.wp
    simp [execOp, hop, hm, hx, hv, hrun, Result.andThen]
    exact hK' _ _ (hK w' (fun _ => by simpa [SeenAt] using r1) r2)
theorem grown_trans {a b c : World} {M : Nat} (h : a.grownBy b (some M)) (k : b.grownBy c (some M)) : a.grownBy c (some M) :=
  ⟨k.os.trans h.os, k.tape.trans h.tape, k.output.trans h.output, Nat.le_trans h.size k.size, fun i hi hne => (k.block i (Nat.lt_of_lt_of_le hi h.size) hne).trans (h.block i hi hne)⟩
theorem grown_below {a b : World} (M : Nat) (h : Below a.heap.size a b) : a.grownBy b (some M) := ⟨h.os, h.tape, h.output, h.size, fun i hi _ => h.block i hi⟩
theorem below_grown {a b : World} {B M : Nat} (h : a.grownBy b (some M)) (hB : B ≤ a.heap.size) (hM : B ≤ M) : Below B a b := ⟨h.os, h.tape, h.output, h.size, fun i hi => h.block i (by omega) (fun e => by injection e with e; omega)⟩
theorem grown_drewN {a b : World} {M : Nat} (h : a.grownBy b (some M)) (n : Nat) : a.grownBy (b.drewN n) (some M) := ⟨h.os, h.tape, h.output, h.size, h.block⟩
set_option maxHeartbeats 2000000 in
set_option maxRecDepth 100000 in
theorem scored1_any (m : Sc) (b M : Nat) (ns : List ByteArray) (w : World) (hx : m.2 < 18446744073709551616) (hb : w.heap[b]? = some (.cells #[.map (some M)] 120 (0, 0))) (hM : SeenAt w M ns) :
    Calls Try.prog 87 #[.agg #[.string m.1, .float .f64 m.2], .pointer (some ⟨b, 0, none⟩)] w fun e w' => e = .returned (.bool (pb (m.1 ∉ ns ∧ ScP m))) ∧ (m.1 ∉ ns → SeenAt w' M (ns ++ [m.1])) ∧ w.grownBy w' (some M) := by
  obtain ⟨nm, x⟩ := m
  have hbl : b < w.heap.size := (Array.getElem?_eq_some_iff.1 hb).1
  have hMl := hM.lt
  have hbM : b ≠ M := by
    intro e
    obtain ⟨es, clock, h1, _⟩ := hM
    rw [e, h1] at hb
    cases hb
  have HMA : Hid (SeenAt (w.alloc (.cells #[.string nm, .float .f64 x] 99)) M ns) := Lib.hid (MapAt.same hM (Lib.alloc_old w _ _ hMl))
  have hc : w.cell? ⟨b, 0, none⟩ = some (.map (some M)) := by rw [Lib.cell_of_heap hb]; rfl
  obtain ⟨ly, ln⟩ := seen_look HMA.out nm
  have HSG := Lib.hid (fun W => sig_any x W hx)
  have HNA := Lib.hid (fun W => nan_any x W)
  have HMY := Lib.hid (fun W => may_any nm W)
  have HBH := Lib.hid hb
  clear hx hb hM
  by_cases hin : nm ∈ ns
  · have hl := ly hin
    have HIN := Lib.hid hin
    clear ly ln hin
    go_enter Try.func87, Try.ntmps87
    go_wp2_with (at_mapUpdate; refine wpList_seen _ rfl _ _ _ rfl M ns nm rfl rfl rfl HMA.out ?_)
    intro w2 hs2 ho2
    have HS2 := Lib.hid hs2
    have HO2 := Lib.hid ho2
    clear hs2 ho2
    go_wp2_with fail
    go_ret
    exact ⟨ret_no (fun h => h.1 HIN.out), fun h => absurd HIN.out h, grown_trans (World.grownBy_alloc w _ _) HO2.out.grown⟩
  · have hl := ln hin
    have HIN := Lib.hid hin
    clear ly ln hin
    go_enter Try.func87, Try.ntmps87
    go_wp2_with (at_mapUpdate; refine wpList_seen _ rfl _ _ _ rfl M ns nm rfl rfl rfl HMA.out ?_)
    intro w2 hs2 ho2
    have HS2 := Lib.hid hs2
    have HO2 := Lib.hid ho2
    have hbo : w2.heap[w.heap.size]? = some (.cells #[.string nm, .float .f64 x] 99 (0, 0)) := (ho2.2.2.2.2 _ (by omega)).trans (heap_alloc_new w _)
    have c0 : w2.cell? ⟨w.heap.size, 0, none⟩ = some (.string nm) := by rw [Lib.cell_of_heap hbo]; rfl
    have c1 : w2.cell? ⟨w.heap.size, 1, none⟩ = some (.float .f64 x) := by rw [Lib.cell_of_heap hbo]; rfl
    clear hs2 ho2 hbo hc hl
    by_cases h1 : ¬ MayP nm
    · have q1 := pb_false h1
      have H1 := Lib.hid h1
      clear h1
      go_wp2_with fail
      refine (HMY.out _).mono ?_
      rintro e w' ⟨rfl, rfl⟩
      go_wp2_with fail
      go_ret
      exact ⟨ret_no (fun h => H1.out h.2.1), fun _ => HS2.out HIN.out, grown_trans (World.grownBy_alloc w _ _) HO2.out.grown⟩
    · have q1 := pb_true (Classical.not_not.1 h1)
      have H1 := Lib.hid (Classical.not_not.1 h1)
      clear h1
      by_cases h2 : ¬ FEq x x
      · have q2 := pb_true h2
        have H2 := Lib.hid h2
        clear h2
        go_wp2_with fail
        refine (HMY.out _).mono ?_
        rintro e w' ⟨rfl, rfl⟩
        go_wp2_with fail
        refine (HNA.out _).mono ?_
        rintro e w' ⟨rfl, rfl⟩
        go_wp2_with fail
        go_ret
        exact ⟨ret_no (fun h => H2.out h.2.2.1), fun _ => HS2.out HIN.out, grown_trans (World.grownBy_alloc w _ _) HO2.out.grown⟩
      · have q2 := pb_false h2
        have H2 := Lib.hid (Classical.not_not.1 h2)
        clear h2
        by_cases h3 : FEq x 0
        · have q3 : (FloatKind.f64.format.order x 0 != some Ordering.eq) = false := by unfold FEq at h3; simpa using h3
          have H3 := Lib.hid h3
          clear h3
          by_cases h4 : 9223372036854775808 ≤ x
          · have q4 := pb_true h4
            have H4 := Lib.hid h4
            clear h4
            go_wp2_with fail
            refine (HMY.out _).mono ?_
            rintro e w' ⟨rfl, rfl⟩
            go_wp2_with fail
            refine (HNA.out _).mono ?_
            rintro e w' ⟨rfl, rfl⟩
            go_wp2_with fail
            refine (HSG.out _).mono ?_
            rintro e w' ⟨rfl, rfl⟩
            go_wp2_with fail
            go_ret
            exact ⟨ret_no (fun h => by rcases h.2.2.2 with h | h; exact h H3.out; have := H4.out; omega), fun _ => HS2.out HIN.out, grown_trans (World.grownBy_alloc w _ _) HO2.out.grown⟩
          · have q4 := pb_false h4
            have H4 := Lib.hid h4
            clear h4
            go_wp2_with fail
            refine (HMY.out _).mono ?_
            rintro e w' ⟨rfl, rfl⟩
            go_wp2_with fail
            refine (HNA.out _).mono ?_
            rintro e w' ⟨rfl, rfl⟩
            go_wp2_with fail
            refine (HSG.out _).mono ?_
            rintro e w' ⟨rfl, rfl⟩
            go_wp2_with fail
            go_ret
            exact ⟨ret_yes ⟨HIN.out, H1.out, H2.out, .inr (by have := H4.out; show x < _; omega)⟩, fun _ => HS2.out HIN.out, grown_trans (World.grownBy_alloc w _ _) HO2.out.grown⟩
        · have q3 : (FloatKind.f64.format.order x 0 != some Ordering.eq) = true := by unfold FEq at h3; simpa using h3
          have H3 := Lib.hid h3
          clear h3
          go_wp2_with fail
          refine (HMY.out _).mono ?_
          rintro e w' ⟨rfl, rfl⟩
          go_wp2_with fail
          refine (HNA.out _).mono ?_
          rintro e w' ⟨rfl, rfl⟩
          go_wp2_with fail
          go_ret
          exact ⟨ret_yes ⟨HIN.out, H1.out, H2.out, .inl H3.out⟩, fun _ => HS2.out HIN.out, grown_trans (World.grownBy_alloc w _ _) HO2.out.grown⟩
end Go.Proofs.Ytpnmhldaaaemeaa.Snp
