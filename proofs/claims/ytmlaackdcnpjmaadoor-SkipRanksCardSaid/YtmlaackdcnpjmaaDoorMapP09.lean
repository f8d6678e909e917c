/- Chapter 09: a map with nodes' pointers for keys and ints for values. -/
import Derived.Test.YtmlaackdcnpjmaaDoorDel09
import Derived.MapKept
namespace Go.Proofs.YtmlaackdcnpjmaaDoor.Skp
open Go Go.RowKit Go.Proofs.YtmlaackdcnpjmaaDoor.Pin Go.Proofs.YtmlaackdcnpjmaaDoor.Flt Go.MapKept
def PMap (w : World) (M : Nat) (ps : List (Nat × Int)) : Prop := ∃ es clock, w.heap[M]? = some (.map es clock) ∧ es.toList.map (fun x => (x.key, x.val)) = ps.map (fun p => (Value.pointer (some ⟨p.1, 0, none⟩), Value.int .i64 p.2))
theorem PMap.lt {w : World} {M : Nat} {ps : List (Nat × Int)} (h : PMap w M ps) : M < w.heap.size := by
  obtain ⟨es, clock, hb, _⟩ := h
  exact (Array.getElem?_eq_some_iff.1 hb).1
theorem PMap.same {w w' : World} {M : Nat} {ps : List (Nat × Int)} (h : PMap w M ps) (hw : w'.heap[M]? = w.heap[M]?) : PMap w' M ps := by
  obtain ⟨es, clock, hb, he⟩ := h
  exact ⟨es, clock, hw.trans hb, he⟩
def seekP (b : Nat) : List (Nat × Int) → Nat → Option (Nat × Value)
  | [], _ => none
  | p :: r, i => if b = p.1 then some (i, .int .i64 p.2) else seekP b r (i + 1)
theorem equal_same (a : Addr) (W : World) : (Op.equal 56 (.pointer (some a)) (.pointer (some a))).run Tryd.prog W = .ok true W := by
  obtain ⟨j, hj, _⟩ := Option.map_eq_some_iff.1 info_node
  have h : ∀ d : Nat, (Op.equalIn (d + 1) 56 (.pointer (some a)) (.pointer (some a))).run Tryd.prog W = .ok true W := fun d => by
    simp [Op.equalIn, run_underlying Tryd.underlying56, sizeOf, typeInfo, hj, run_sameAddr_same]
  exact h 9999
theorem equal_other {W : World} {b c : Nat} (h : b ≠ c) (hb : NodeAt W b) (hc : NodeAt W c) : (Op.equal 56 (.pointer (some ⟨b, 0, none⟩)) (.pointer (some ⟨c, 0, none⟩))).run Tryd.prog W = .ok false W := by
  obtain ⟨j, hj, hs⟩ := Option.map_eq_some_iff.1 info_node
  obtain ⟨cs, h1, _⟩ := hb
  obtain ⟨ds, h2, _⟩ := hc
  have hk : ∀ d : Nat, (Op.equalIn (d + 1) 56 (.pointer (some ⟨b, 0, none⟩)) (.pointer (some ⟨c, 0, none⟩))).run Tryd.prog W = .ok false W := fun d => by
    simp [Op.equalIn, run_underlying Tryd.underlying56, sizeOf, typeInfo, hj, hs, run_sameAddr_other W (a := ⟨b, 0, none⟩) (b := ⟨c, 0, none⟩) (fun e => h (by injection e)) h1 h2]
  exact hk 9999
theorem find_ptr {W : World} {b : Nat} (hb : NodeAt W b) : ∀ (es : List MapEntry) (ps : List (Nat × Int)) (i : Nat), es.map (fun x => (x.key, x.val)) = ps.map (fun p => (Value.pointer (some ⟨p.1, 0, none⟩), Value.int .i64 p.2)) → (∀ p ∈ ps, NodeAt W p.1) →
    (Instr.findAsking 56 (.pointer (some ⟨b, 0, none⟩)) es i).run Tryd.prog W = .ok (seekP b ps i) W
  | [], [], _, _, _ => rfl
  | [], _ :: _, _, h, _ => by simp at h
  | _ :: _, [], _, h, _ => by simp at h
  | x :: es, p :: ps, i, h, hn => by
    simp only [List.map_cons, List.cons.injEq, Prod.mk.injEq] at h
    obtain ⟨⟨h1, h2⟩, h3⟩ := h
    unfold Instr.findAsking seekP
    rw [h1, h2]
    by_cases hbp : b = p.1
    · subst hbp
      simp [equal_same, Result.andThen]
    · have ih := find_ptr hb es ps (i + 1) h3 (fun q hq => hn q (by simp [hq]))
      simp [equal_other hbp hb (hn p (by simp)), Result.andThen, hbp, ih]
theorem find_key {W : World} {b : Nat} (hb : NodeAt W b) {es : Array MapEntry} {ps : List (Nat × Int)} (h : es.toList.map (fun x => (x.key, x.val)) = ps.map (fun p => (Value.pointer (some ⟨p.1, 0, none⟩), Value.int .i64 p.2))) (hn : ∀ p ∈ ps, NodeAt W p.1) :
    (Instr.findKey 56 (.pointer (some ⟨b, 0, none⟩)) es.toList).run Tryd.prog W = .ok (seekP b ps 0) W := by
  have ha := find_ptr hb es.toList ps 0 h hn
  unfold Instr.findKey
  cases hl : es.toList with
  | nil =>
    rw [hl] at h
    have : ps = [] := by simpa using h.symm
    subst this
    simp [run_underlying Tryd.underlying56, Instr.findNow, seekP, Result.andThen]
  | cons x r =>
    rw [hl] at ha h
    cases ps with
    | nil => simp at h
    | cons p ps =>
      simp only [List.map_cons, List.cons.injEq, Prod.mk.injEq] at h
      have hx : Instr.findNow (.pointer 64) (.pointer (some ⟨b, 0, none⟩)) (x :: r) 0 = none := by
        unfold Instr.findNow
        rw [h.1.1]
        rfl
      simp [run_underlying Tryd.underlying56, hx, Result.andThen, ha]
theorem chk_ptr (em : Bool) (b : Nat) (W : World) : (Instr.checkKey em 10000 56 (.pointer (some ⟨b, 0, none⟩))).run Tryd.prog W = .ok () W := by
  have h : ∀ d : Nat, (Instr.checkKey em (d + 1) 56 (.pointer (some ⟨b, 0, none⟩))).run Tryd.prog W = .ok () W := fun d => by
    simp [Instr.checkKey, run_underlying Tryd.underlying56]
  exact h 9999
theorem seek_none {b : Nat} : ∀ (ps : List (Nat × Int)) (i : Nat), (∀ p ∈ ps, p.1 ≠ b) → seekP b ps i = none
  | [], _, _ => rfl
  | p :: ps, i, h => by
    unfold seekP
    rw [if_neg (fun e => h p (by simp) e.symm)]
    exact seek_none ps (i + 1) fun q hq => h q (by simp [hq])
/-- a new entry -/
theorem pm_put {W : World} {M b : Nat} {ps : List (Nat × Int)} (h : PMap W M ps) (hb : NodeAt W b) (hn : ∀ p ∈ ps, NodeAt W p.1) (hne : ∀ p ∈ ps, p.1 ≠ b) (z : Int) :
    ∃ W', (Instr.mapUpdate 59 (.map (some M)) (.pointer (some ⟨b, 0, none⟩)) (.int .i64 z)).run Tryd.prog W = .ok () W' ∧ PMap W' M (ps ++ [(b, z)]) ∧ W'.os = W.os ∧ W'.tape = W.tape ∧ W'.output = W.output ∧ W'.heap.size = W.heap.size ∧ ∀ r, r ≠ M → W'.heap[r]? = W.heap[r]? := by
  obtain ⟨es, clock, hm, he⟩ := h
  have hf := find_key hb he hn
  rw [seek_none ps 0 hne] at hf
  refine ⟨{ W with heap := W.heap.setIfInBounds M (.map (es.push { key := .pointer (some ⟨b, 0, none⟩), val := .int .i64 z, born := clock }) (clock + 1)) }, ?_, ⟨_, _, (heap_set hm).1, by simp [he]⟩, rfl, rfl, rfl, by simp, fun r hr => (heap_set hm).2 r hr⟩
  simp [Instr.mapUpdate, run_underlying Tryd.underlying59, MapKept.run_getObj_map hm, chk_ptr, hf, run_setObj_map _ hm, Result.andThen]
/-- an entry that is there -/
theorem pm_look {W : World} {M b : Nat} {ps : List (Nat × Int)} (h : PMap W M ps) (hb : NodeAt W b) (hn : ∀ p ∈ ps, NodeAt W p.1) {i : Nat} {z : Int} (hs : seekP b ps 0 = some (i, .int .i64 z)) :
    (Instr.lookup 59 (.map (some M)) (.pointer (some ⟨b, 0, none⟩)) false).run Tryd.prog W = .ok (.int .i64 z) W := by
  obtain ⟨es, clock, hm, he⟩ := h
  have hf := find_key hb he hn
  rw [hs] at hf
  simp [Instr.lookup, run_underlying Tryd.underlying59, MapKept.run_getObj_map hm, chk_ptr, hf, Result.andThen]
/-- the places of the nodes up to position k -/
def places (bl : Nat → Nat) (k : Nat) : List (Nat × Int) := (List.range (k + 1)).map fun p => (bl p, (p : Int))
theorem places_succ (bl : Nat → Nat) (k : Nat) : places bl (k + 1) = places bl k ++ [(bl (k + 1), ((k + 1 : Nat) : Int))] := by unfold places; rw [List.range_succ, List.map_append]; rfl
theorem seek_range {bl : Nat → Nat} {n p : Nat} (hinj : ∀ p q, p ≤ n → q ≤ n → bl p = bl q → p = q) (hp : p ≤ n) : ∀ (k a : Nat), a ≤ p → p < a + k → a + k ≤ n + 1 → ∀ i, seekP (bl p) ((List.range' a k).map fun p => (bl p, (p : Int))) i = some (i + (p - a), .int .i64 (p : Int))
  | 0, a, h1, h2, _, i => by omega
  | k + 1, a, h1, h2, h3, i => by
    rw [List.range'_succ, List.map_cons]
    unfold seekP
    by_cases hpa : p = a
    · subst hpa
      simp
    · rw [if_neg (fun e => hpa (hinj p a hp (by omega) e)), seek_range hinj hp k (a + 1) (by omega) (by omega) (by omega) (i + 1)]
      congr 2
      omega
theorem seek_places {bl : Nat → Nat} {n p : Nat} (hinj : ∀ p q, p ≤ n → q ≤ n → bl p = bl q → p = q) (hp : p ≤ n) : seekP (bl p) (places bl n) 0 = some (p, .int .i64 (p : Int)) := by
  unfold places
  rw [List.range_eq_range', seek_range hinj hp (n + 1) 0 (Nat.zero_le _) (by omega) (by omega) 0]
  simp
end Go.Proofs.YtmlaackdcnpjmaaDoor.Skp
