/- A range over a map with texts for keys: the iterator in a block of its own, what is still to come as a list. Over any program. -/
import Derived.Test.YtnoalklbgncajaaDoorMapS
import Derived.Test.YtnoalklbgncajaaDoorBkM
import Derived.Maps.RangeRun
namespace Go.Proofs.YtnoalklbgncajaaDoor.Mps
open Go Go.MapKept Go.RowKit Go.ChangeMaps Go.Proofs.YtnoalklbgncajaaDoor.Bok
section
variable {P : Program} {w : World} {t k e : TypeId}
abbrev KV := List (ByteArray × Value)
/-- the iterator in block r over the map (nil or a block) of the entries l; rest: those to come, in some order -/
def IterAt (w : World) (r : Nat) (mo : Option Nat) (l rest : KV) : Prop :=
  match mo with
  | none => l = [] ∧ rest = [] ∧ ∃ a s b, w.heap[r]? = some (.mapIter none a s b)
  | some M => ∃ es clock since seen c0, w.heap[r]? = some (.mapIter (some M) since seen c0) ∧ w.heap[M]? = some (.map es clock) ∧ es.toList.map (fun x => (x.key, x.val)) = l.map (fun p => (Value.string p.1, p.2)) ∧ Stamped es clock ∧
      (∀ x ∈ es.toList, x.born < since) ∧ since ≤ c0 ∧ since ≤ clock ∧ (leftOf es seen).toList.map (fun x => (x.key, x.val)) = rest.map (fun p => (Value.string p.1, p.2))
theorem IterAt.same {w' : World} {r : Nat} {mo : Option Nat} {l rest : KV} (h : IterAt w r mo l rest) (h1 : w'.heap[r]? = w.heap[r]?) (h2 : ∀ M, mo = some M → w'.heap[M]? = w.heap[M]?) : IterAt w' r mo l rest := by
  cases mo with
  | none =>
    obtain ⟨a1, a2, a, s, b, a3⟩ := h
    exact ⟨a1, a2, a, s, b, h1.trans a3⟩
  | some M =>
    obtain ⟨es, clock, since, seen, c0, a1, a2, a3⟩ := h
    exact ⟨es, clock, since, seen, c0, h1.trans a1, (h2 M rfl).trans a2, a3⟩
theorem IterAt.lt {r : Nat} {mo : Option Nat} {l rest : KV} (h : IterAt w r mo l rest) : r < w.heap.size := by
  cases mo with
  | none => obtain ⟨_, _, a, s, b, a3⟩ := h; exact (Array.getElem?_eq_some_iff.1 a3).1
  | some M => obtain ⟨es, clock, since, seen, c0, a1, _⟩ := h; exact (Array.getElem?_eq_some_iff.1 a1).1
theorem IterAt.map {r M : Nat} {l rest : KV} (h : IterAt w r (some M) l rest) : MapAt w M l := by
  obtain ⟨es, clock, since, seen, c0, a1, a2, a3, a4, _⟩ := h
  exact ⟨es, clock, a2, a3, a4⟩
theorem left_none (es : Array MapEntry) : leftOf es #[] = es := by
  unfold leftOf
  exact Array.filter_eq_self.2 (fun x _ => by simp)
/-- a map that may be nil -/
def MapO (w : World) (mo : Option Nat) (l : KV) : Prop := match mo with | none => l = [] | some M => MapAt w M l
/-- 'range m' -/
theorem run_range_s (ht : P.underlying t = some (.map k e)) {mo : Option Nat} {l : KV} (h : MapO w mo l) :
    ∃ w', (Instr.range t (.map mo)).run P w = .ok (.pointer (some ⟨w.heap.size, 0, none⟩)) w' ∧ IterAt w' w.heap.size mo l l ∧ (∃ o, w' = w.alloc o) := by
  cases mo with
  | none => exact ⟨_, run_range_nilMap w t k e ht, ⟨h, h, _, _, _, heap_alloc_new w _⟩, _, rfl⟩
  | some M =>
    have hlt := MapAt.lt (w := w) h
    obtain ⟨es, clock, hb, he, hS⟩ := h
    refine ⟨_, run_range_map w t k e M es clock ht hb, ⟨es, clock, clock, #[], clock, heap_alloc_new w _, (heap_alloc_old w _ hlt).trans hb, he, hS, ?_, Nat.le_refl _, Nat.le_refl _, ?_⟩, _, rfl⟩
    · exact hS.1
    · rw [left_none]; exact he
theorem filter_erase : ∀ (L : List MapEntry) (j : Nat) (hj : j < L.length), (L.map (·.born)).Nodup → L.filter (fun x => !(x.born == L[j].born)) = L.eraseIdx j
  | x :: L, 0, _, hn => by
    have h2 := List.nodup_cons.1 hn
    simp only [List.getElem_cons_zero, List.eraseIdx_cons_zero, List.filter_cons, beq_self_eq_true, Bool.not_true, Bool.false_eq_true, if_false]
    refine List.filter_eq_self.2 fun y hy => ?_
    cases e : (y.born == x.born) with
    | false => rfl
    | true => exact absurd (List.mem_map.2 ⟨y, hy, beq_iff_eq.1 e⟩) h2.1
  | x :: L, j + 1, hj, hn => by
    have h2 := List.nodup_cons.1 hn
    have hj2 : j < L.length := by simpa using hj
    have e : (x.born == (L[j]'hj2).born) = false := by
      cases e : (x.born == (L[j]'hj2).born) with
      | false => rfl
      | true => exact absurd (List.mem_map.2 ⟨_, List.getElem_mem hj2, (beq_iff_eq.1 e).symm⟩) h2.1
    have ih := filter_erase L j hj2 h2.2
    simp only [List.getElem_cons_succ, List.eraseIdx_cons_succ, List.filter_cons, e, Bool.not_false, if_true, ih]
theorem left_push (es : Array MapEntry) (seen : Array Nat) (b : Nat) : (leftOf es (seen.push b)).toList = (leftOf es seen).toList.filter (fun x => !(x.born == b)) := by
  unfold leftOf
  rw [Array.toList_filter, Array.toList_filter, List.filter_filter]
  congr 1
  funext x
  rw [contains_push]
  cases seen.contains x.born <;> cases x.born == b <;> rfl
theorem perm_erase {α : Type} : ∀ (L : List α) (j : Nat) (hj : j < L.length), L.Perm (L[j] :: L.eraseIdx j)
  | x :: L, 0, _ => List.Perm.refl _
  | x :: L, j + 1, hj => by
    have ih := perm_erase L j (by simpa using hj)
    simp only [List.getElem_cons_succ, List.eraseIdx_cons_succ]
    exact (ih.cons x).trans (List.Perm.swap _ _ _)
/-- 'next': nothing is left, or one of those to come, whichever, comes out -/
theorem next_s {r : Nat} {mo : Option Nat} {l rest : KV} (ty : TypeId) (h : IterAt w r mo l rest) :
    (rest = [] ∧ (Instr.next (.pointer (some ⟨r, 0, none⟩)) false ty).run P w = .ok (.tuple #[.bool false]) w) ∨
    ∃ (x : ByteArray × Value) (rest' : KV) (w' : World), rest.Perm (x :: rest') ∧ x ∈ l ∧ (Instr.next (.pointer (some ⟨r, 0, none⟩)) false ty).run P w = .ok (.tuple #[.bool true, .string x.1, x.2]) w' ∧ IterAt w' r mo l rest' ∧ Frm (fun b => b = r) w w' ∧
      (Instr.entry (.pointer (some ⟨r, 0, none⟩))).run P w' = .ok (.tuple #[.string x.1, x.2]) w' := by
  cases mo with
  | none =>
    obtain ⟨h1, h2, a, s, b, h3⟩ := h
    refine .inl ⟨h2, ?_⟩
    simp only [Instr.next, getObj, Sem.run_bind, Sem.run, h3, Result.andThen]
    rfl
  | some M =>
    obtain ⟨es, clock, since, seen, c0, hr, hb, he, hS, ho, hc, hcl, hl⟩ := h
    rcases run_next_at (P := P) w ty r M since c0 seen es clock hr hb ho hc with ⟨h1, h2⟩ | ⟨e, he2, w1, hw1, h2⟩
    · refine .inl ⟨?_, h2⟩
      have h3 : leftOf es seen = #[] := Array.eq_empty_of_size_eq_zero h1
      rw [h3] at hl
      cases rest with
      | nil => rfl
      | cons y rest => simp at hl
    · obtain ⟨j, hj, rfl⟩ := List.getElem_of_mem he2
      have hlen : (leftOf es seen).toList.length = rest.length := by have := congrArg List.length hl; simpa using this
      have hj2 : j < rest.length := by omega
      have hkv : ((leftOf es seen).toList[j].key, (leftOf es seen).toList[j].val) = (Value.string rest[j].1, rest[j].2) := by
        have h3 : ((leftOf es seen).toList.map (fun x => (x.key, x.val)))[j]'(by simpa using hj) = (rest.map (fun p => (Value.string p.1, p.2)))[j]'(by simpa using hj2) := by simp only [hl]
        simpa using h3
      injection hkv with hk1 hk2
      have hrM : r ≠ M := fun e => by rw [e, hb] at hr; cases hr
      have hnd : ((leftOf es seen).toList.map (·.born)).Nodup := by
        unfold leftOf
        rw [Array.toList_filter]
        exact hS.2.1.sublist (List.Sublist.map _ List.filter_sublist)
      have hw1r : w1.heap = w.heap ∧ w1.os = w.os ∧ w1.tape = w.tape ∧ w1.output = w.output := by rcases hw1 with rfl | rfl <;> exact ⟨rfl, rfl, rfl, rfl⟩
      have hrl : r < w1.heap.size := by rw [hw1r.1]; exact (Array.getElem?_eq_some_iff.1 hr).1
      have hset : ∀ o, (setBlock w1 r o).heap[r]? = some o := fun o => by
        show (w1.heap.setIfInBounds r o)[r]? = _
        rw [Array.getElem?_setIfInBounds_self_of_lt hrl]
      have hoth : ∀ o q, q ≠ r → (setBlock w1 r o).heap[q]? = w.heap[q]? := fun o q hq => by
        show (w1.heap.setIfInBounds r o)[q]? = _
        rw [Array.getElem?_setIfInBounds_ne (fun e => hq e.symm), hw1r.1]
      have hmem := (mem_left he2).1
      have hxm : rest[j] ∈ l := by
        have h4 : (((leftOf es seen).toList[j]).key, ((leftOf es seen).toList[j]).val) ∈ l.map (fun p => (Value.string p.1, p.2)) := by rw [← he]; exact List.mem_map.2 ⟨_, hmem, rfl⟩
        obtain ⟨p, hp, e⟩ := List.mem_map.1 h4
        rw [hk1, hk2] at e
        injection e with e1 e2
        injection e1 with e1
        have : p = rest[j] := Prod.ext e1 e2
        rw [← this]; exact hp
      refine .inr ⟨rest[j], rest.eraseIdx j, setBlock w1 r (.mapIter (some M) since (seen.push ((leftOf es seen).toList[j]).born) clock), perm_erase rest j hj2, hxm, ?_, ?_, ?_, ?_⟩
      · rw [h2, hk1, hk2]
      · refine ⟨es, clock, since, seen.push ((leftOf es seen).toList[j]).born, clock, hset _, (hoth _ M (fun e => hrM e.symm)).trans hb, he, hS, ho, hcl, hcl, ?_⟩
        · rw [left_push, filter_erase _ j hj hnd]
          rw [map_eraseIdx, map_eraseIdx, hl]
      · exact ⟨hw1r.2.1, hw1r.2.2.1, hw1r.2.2.2, by show _ ≤ (w1.heap.setIfInBounds r _).size; simp [hw1r.1], fun q _ hq => hoth _ q hq⟩
      · rw [run_entry_at _ r M since seen es clock _ (hset _) ((hoth _ M (fun e => hrM e.symm)).trans hb) hmem hS.2.1, hk1, hk2]
end
section
variable {P : Program} {ops : Array Oper} {rst : List Oper} {o : Oper} {a : Act} {Q : Exit → Act → World → Prop}
/-- 'range m' at its operation -/
theorem wpList_range_s (w : World) (hg : o.guard = none) (m : Operand) (t k e : TypeId) (hop : o.op = Op.range t m) (ht : P.underlying t = some (.map k e)) (mo : Option Nat) (l : KV) (hm : a.eval m = .map mo) (h : MapO w mo l)
    (hK : ∀ w', IterAt w' w.heap.size mo l l → (∃ x, w' = w.alloc x) → wpList P ops Q rst (a.put o.dst (.pointer (some ⟨w.heap.size, 0, none⟩))) w') :
    wpList P ops Q (o :: rst) a w := by
  refine wpList_plain hg fun K' hK' => ?_
  obtain ⟨w', hrun, r1, r2⟩ := run_range_s ht h
  unfold Oper.wp
  simp [execOp, hop, hm, hrun, Result.andThen]
  exact hK' _ _ (hK w' r1 r2)
/-- the step at its operation -/
theorem wpList_next_s (w : World) (hg : o.guard = none) (it : Operand) (hop : o.op = Op.next it false) (r : Nat) (mo : Option Nat) (l rest : KV) (hit : a.eval it = .pointer (some ⟨r, 0, none⟩)) (h : IterAt w r mo l rest)
    (hDone : rest = [] → wpList P ops Q rst (a.put o.dst (.tuple #[.bool false])) w)
    (hMore : ∀ (x : ByteArray × Value) (rest' : KV) (w' : World), rest.Perm (x :: rest') → x ∈ l → IterAt w' r mo l rest' → Frm (fun b => b = r) w w' → (Instr.entry (.pointer (some ⟨r, 0, none⟩))).run P w' = .ok (.tuple #[.string x.1, x.2]) w' → wpList P ops Q rst (a.put o.dst (.tuple #[.bool true, .string x.1, x.2])) w') :
    wpList P ops Q (o :: rst) a w := by
  refine wpList_plain hg fun K' hK' => ?_
  unfold Oper.wp
  rcases next_s (P := P) o.type h with ⟨h1, h2⟩ | ⟨x, rest', w', h1, h2, h3, h4, h5, h6⟩
  · simp [execOp, hop, hit, h2, Result.andThen]
    exact hK' _ _ (hDone h1)
  · simp [execOp, hop, hit, h3, Result.andThen]
    exact hK' _ _ (hMore x rest' w' h1 h2 h4 h5 h6)
end
end Go.Proofs.YtnoalklbgncajaaDoor.Mps
