/- A map with texts for keys, whatever its values, known entry by entry: looked up, written, deleted. Over any program. -/
import Derived.MapKept
import Derived.WalkKit
import Derived.Below
import Derived.Carry
import Derived.Laws.AppendOwn
namespace Go.Proofs.YtnoalklbgncajaaDoor.Mps
open Go Go.MapKept
section
variable {P : Program} {w : World} {M : Nat} {t k e : TypeId} {ps : List (ByteArray × Value)}

/-- block M is a map of these entries, in the order in which they came -/
def MapAt (w : World) (M : Nat) (ps : List (ByteArray × Value)) : Prop :=
  ∃ es clock, w.heap[M]? = some (.map es clock) ∧ es.toList.map (fun x => (x.key, x.val)) = ps.map (fun p => (Value.string p.1, p.2)) ∧ Stamped es clock
theorem MapAt.lt (h : MapAt w M ps) : M < w.heap.size := by
  obtain ⟨es, clock, hb, _, _⟩ := h
  exact (Array.getElem?_eq_some_iff.1 hb).1
theorem MapAt.same {w' : World} (h : MapAt w M ps) (hw : w'.heap[M]? = w.heap[M]?) : MapAt w' M ps := by
  obtain ⟨es, clock, hb, he, hS⟩ := h
  exact ⟨es, clock, hw.trans hb, he, hS⟩
/-- the first entry of a name -/
def seek (nm : ByteArray) : List (ByteArray × Value) → Nat → Option (Nat × Value)
  | [], _ => none
  | p :: r, i => if (nm == p.1) = true then some (i, p.2) else seek nm r (i + 1)
theorem find_seek (nm : ByteArray) : ∀ (l : List MapEntry) (ps : List (ByteArray × Value)) (i : Nat), l.map (fun x => (x.key, x.val)) = ps.map (fun p => (Value.string p.1, p.2)) → Instr.findNow .string (.string nm) l i = some (seek nm ps i)
  | [], [], _, _ => rfl
  | [], _ :: _, _, h => by simp at h
  | _ :: _, [], _, h => by simp at h
  | x :: l, p :: ps, i, h => by
    simp only [List.map_cons, List.cons.injEq, Prod.mk.injEq] at h
    obtain ⟨⟨h1, h2⟩, h3⟩ := h
    unfold Instr.findNow seek
    rw [h1, h2]
    cases hq : (nm == p.1) with
    | true => simp [Instr.sameNow, hq]
    | false => simp [Instr.sameNow, hq, find_seek nm l ps (i + 1) h3]
theorem run_seek (hk : P.underlying k = some .string) {es : Array MapEntry} (he : es.toList.map (fun x => (x.key, x.val)) = ps.map (fun p => (Value.string p.1, p.2))) (nm : ByteArray) : (Instr.findKey k (.string nm) es.toList).run P w = .ok (seek nm ps 0) w :=
  run_findKey hk (find_seek nm es.toList ps 0 he)
theorem run_chk (hk : P.underlying k = some .string) (b : Bool) (nm : ByteArray) : (Instr.checkKey b 10000 k (.string nm)).run P w = .ok () w := run_checkKey (d := .string) (k := .string nm) hk (show IsKey .string (.string nm) from trivial) b 9999

/-- 'v, ok := m[nm]' -/
theorem look_ok (ht : P.underlying t = some (.map k e)) (hk : P.underlying k = some .string) {z : Value} (hz : (zeroValue e).run P w = .ok z w) (h : MapAt w M ps) (nm : ByteArray) :
    (Instr.lookup t (.map (some M)) (.string nm) true).run P w = .ok (.tuple #[((seek nm ps 0).map (·.2)).getD z, .bool (seek nm ps 0).isSome]) w := by
  obtain ⟨es, clock, hb, he, _⟩ := h
  have hs := run_seek (w := w) hk he nm
  cases hq : seek nm ps 0 with
  | none =>
    rw [hq] at hs
    simp [Instr.lookup, run_underlying ht, MapKept.run_getObj_map hb, run_chk hk, hs, hz, Result.andThen]
  | some x =>
    rw [hq] at hs
    simp [Instr.lookup, run_underlying ht, MapKept.run_getObj_map hb, run_chk hk, hs, Result.andThen]
/-- 'm[nm]' -/
theorem look (ht : P.underlying t = some (.map k e)) (hk : P.underlying k = some .string) {z : Value} (hz : (zeroValue e).run P w = .ok z w) (h : MapAt w M ps) (nm : ByteArray) :
    (Instr.lookup t (.map (some M)) (.string nm) false).run P w = .ok (((seek nm ps 0).map (·.2)).getD z) w := by
  obtain ⟨es, clock, hb, he, _⟩ := h
  have hs := run_seek (w := w) hk he nm
  cases hq : seek nm ps 0 with
  | none =>
    rw [hq] at hs
    simp [Instr.lookup, run_underlying ht, MapKept.run_getObj_map hb, run_chk hk, hs, hz, Result.andThen]
  | some x =>
    rw [hq] at hs
    simp [Instr.lookup, run_underlying ht, MapKept.run_getObj_map hb, run_chk hk, hs, Result.andThen]
/-- only block M has turned -/
def OnlyMap (w w' : World) (M : Nat) : Prop := w'.os = w.os ∧ w'.tape = w.tape ∧ w'.output = w.output ∧ w'.heap.size = w.heap.size ∧ ∀ r, r ≠ M → w'.heap[r]? = w.heap[r]?
theorem OnlyMap.grown {w' : World} (h : OnlyMap w w' M) : w.grownBy w' (some M) := ⟨h.1, h.2.1, h.2.2.1, by rw [h.2.2.2.1]; exact Nat.le_refl _, fun r _ hr => h.2.2.2.2 r (fun e => hr (by rw [e]))⟩
theorem set_only {o o' : Obj} (hb : w.heap[M]? = some o) : OnlyMap w { w with heap := w.heap.setIfInBounds M o' } M := ⟨rfl, rfl, rfl, by simp, fun r hr => (heap_set hb).2 r hr⟩
theorem seek_mem (nm : ByteArray) : ∀ (ps : List (ByteArray × Value)) (i : Nat), seek nm ps i = none → ∀ p ∈ ps, p.1 ≠ nm
  | [], _, _, _, hp => nomatch hp
  | q :: r, i, h, p, hp => by
    unfold seek at h
    cases hq : (nm == q.1) with
    | true => rw [hq] at h; cases h
    | false =>
      rw [hq] at h
      rcases List.mem_cons.1 hp with rfl | hp
      · intro e
        rw [e, (MapKept.bytes_beq _ _).2 rfl] at hq
        cases hq
      · exact seek_mem nm r (i + 1) h p hp
theorem seek_ne {es : Array MapEntry} (he : es.toList.map (fun x => (x.key, x.val)) = ps.map (fun p => (Value.string p.1, p.2))) {nm : ByteArray} (hn : seek nm ps 0 = none) {x : MapEntry} (hx : x ∈ es.toList) : x.key ≠ .string nm := by
  have hm : (x.key, x.val) ∈ es.toList.map (fun x => (x.key, x.val)) := List.mem_map.2 ⟨x, hx, rfl⟩
  rw [he] at hm
  obtain ⟨p, hp, e⟩ := List.mem_map.1 hm
  injection e with e1 e2
  intro e3
  rw [e3] at e1
  injection e1 with e4
  exact seek_mem nm ps 0 hn p hp e4
/-- 'm[nm] = v', nm new -/
theorem put_new (ht : P.underlying t = some (.map k e)) (hk : P.underlying k = some .string) (h : MapAt w M ps) (nm : ByteArray) (v : Value) (hn : seek nm ps 0 = none) :
    ∃ w', (Instr.mapUpdate t (.map (some M)) (.string nm) v).run P w = .ok () w' ∧ MapAt w' M (ps ++ [(nm, v)]) ∧ OnlyMap w w' M := by
  obtain ⟨es, clock, hb, he, hS⟩ := h
  have hs := run_seek (w := w) hk he nm
  rw [hn] at hs
  refine ⟨{ w with heap := w.heap.setIfInBounds M (.map (es.push { key := .string nm, val := v, born := clock }) (clock + 1)) }, ?_, ⟨_, _, (heap_set hb).1, ?_, stamped_push hS (fun x hx => seek_ne he hn hx)⟩, set_only hb⟩
  · simp [Instr.mapUpdate, run_underlying ht, MapKept.run_getObj_map hb, run_chk hk, hs, run_setObj_map _ hb, Result.andThen]
  · simp [he]
/-- the entries without one -/
def without (nm : ByteArray) : List (ByteArray × Value) → List (ByteArray × Value)
  | [] => []
  | p :: r => if (nm == p.1) = true then r else p :: without nm r
theorem erase_at : ∀ (l : List MapEntry) (ps : List (ByteArray × Value)) (i j : Nat) (v : Value) (nm : ByteArray), l.map (fun x => (x.key, x.val)) = ps.map (fun p => (Value.string p.1, p.2)) → seek nm ps i = some (i + j, v) →
    (l.eraseIdx j).map (fun x => (x.key, x.val)) = (without nm ps).map (fun p => (Value.string p.1, p.2))
  | [], [], _, _, _, _, _, h => by cases h
  | [], _ :: _, _, _, _, _, h, _ => by simp at h
  | _ :: _, [], _, _, _, _, h, _ => by simp at h
  | x :: l, p :: ps, i, j, v, nm, h, hs => by
    simp only [List.map_cons, List.cons.injEq] at h
    unfold seek at hs
    unfold without
    cases hq : (nm == p.1) with
    | true =>
      rw [hq] at hs
      simp only [if_true, Option.some.injEq, Prod.mk.injEq] at hs
      obtain rfl : j = 0 := by omega
      simp [h.2]
    | false =>
      rw [hq] at hs
      simp only [Bool.false_eq_true, if_false] at hs
      cases j with
      | zero =>
        exfalso
        have hge : ∀ (ps : List (ByteArray × Value)) (i a : Nat) (v : Value), seek nm ps i = some (a, v) → i ≤ a := by
          intro ps
          induction ps with
          | nil => intro i a v h; cases h
          | cons p r ih =>
            intro i a v h
            unfold seek at h
            split at h
            · simp at h; omega
            · have := ih _ _ _ h; omega
        have := hge _ _ _ _ hs
        omega
      | succ j =>
        have := erase_at l ps (i + 1) j v nm h.2 (by rw [hs]; simp; omega)
        simp [List.eraseIdx, h.1, this]
/-- 'delete(m, nm)' -/
theorem del (ht : P.underlying t = some (.map k e)) (hk : P.underlying k = some .string) (h : MapAt w M ps) (nm : ByteArray) (ty : TypeId) {i : Nat} {v : Value} (hn : seek nm ps 0 = some (i, v)) :
    ∃ w', (Builtin.delete_ #[t, k] ty #[.map (some M), .string nm]).run P w = .ok (.tuple #[]) w' ∧ MapAt w' M (without nm ps) ∧ OnlyMap w w' M := by
  obtain ⟨es, clock, hb, he, hS⟩ := h
  have hs := run_seek (w := w) hk he nm
  rw [hn] at hs
  refine ⟨{ w with heap := w.heap.setIfInBounds M (.map (es.eraseIdxIfInBounds i) clock) }, ?_, ⟨_, _, (heap_set hb).1, ?_, stamped_erase hS i⟩, set_only hb⟩
  · simp [Builtin.delete_, run_underlying ht, MapKept.run_getObj_map hb, run_chk hk, hs, run_setObj_map _ hb, Result.andThen]
  · rw [← erase_at es.toList ps 0 i v nm he (by rw [hn]; simp)]
    simp
end
end Go.Proofs.YtnoalklbgncajaaDoor.Mps
