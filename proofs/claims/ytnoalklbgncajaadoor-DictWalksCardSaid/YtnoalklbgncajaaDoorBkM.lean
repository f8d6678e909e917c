/- Books of lists: what lies in memory, and what an append turns. Over any program. -/
import Derived.Test.YtnoalklbgncajaaDoorPin
import Derived.Laws.AppendOwn
import Derived.Laws.OwnMore
import Derived.Lib.Builder
import Derived.OwnWalk
import Derived.Below
import Derived.WalkKit
namespace Go.Proofs.YtnoalklbgncajaaDoor.Bok
open Go Go.RowKit Go.Proofs.YtnoalklbgncajaaDoor.Pin
theorem set_block_other (w : World) (a : Addr) (u : Value) (k : Nat) (h : k ≠ a.block) : (w.setCell a u).heap[k]? = w.heap[k]? := by
  simp only [World.setCell, Array.getElem?_modify]
  rw [if_neg (Ne.symm h)]
/-- what lay there and is not of these blocks stays -/
structure Frm (own : Nat → Prop) (w w' : World) : Prop where
  os : w'.os = w.os
  tape : w'.tape = w.tape
  output : w'.output = w.output
  size : w.heap.size ≤ w'.heap.size
  block : ∀ k, k < w.heap.size → ¬ own k → w'.heap[k]? = w.heap[k]?
section
variable {own own' : Nat → Prop} {w w' w'' : World}
theorem Frm.of_below (h : Below w.heap.size w w') : Frm own w w' := ⟨h.os, h.tape, h.output, h.size, fun k hk _ => h.block k hk⟩
theorem Frm.refl (w : World) : Frm own w w := ⟨rfl, rfl, rfl, Nat.le_refl _, fun _ _ _ => rfl⟩
theorem Frm.trans (h : Frm own w w') (k : Frm own' w' w'') (ho : ∀ x, x < w.heap.size → own' x → own x) : Frm own w w'' :=
  ⟨k.os.trans h.os, k.tape.trans h.tape, k.output.trans h.output, Nat.le_trans h.size k.size, fun x hx hn => (k.block x (Nat.lt_of_lt_of_le hx h.size) (fun hc => hn (ho x hx hc))).trans (h.block x hx hn)⟩
theorem Frm.mono (h : Frm own w w') (ho : ∀ x, x < w.heap.size → own x → own' x) : Frm own' w w' := ⟨h.os, h.tape, h.output, h.size, fun x hx hn => h.block x hx (fun hc => hn (ho x hx hc))⟩
theorem Frm.set (h : Frm own w w') (a : Addr) (v : Value) (ha : a.block < w.heap.size → own a.block) : Frm own w (w'.setCell a v) :=
  ⟨h.os, h.tape, h.output, by simpa using h.size, fun k hk hn => by
    have hne : k ≠ a.block := fun e => hn (e ▸ ha (e ▸ hk))
    exact (set_block_other w' a v k hne).trans (h.block k hk hn)⟩
theorem Frm.alloc (h : Frm own w w') (o : Obj) : Frm own w (w'.alloc o) :=
  ⟨h.os, h.tape, h.output, by have := h.size; simp; omega, fun k hk hn => (heap_alloc_old w' o (Nat.lt_of_lt_of_le hk h.size)).trans (h.block k hk hn)⟩
theorem Frm.drewN (h : Frm own w w') (n : Nat) : Frm own w (w'.drewN n) := h.trans (own' := own) (Frm.of_below (below_drewN (Below.refl _ _) n)) (fun _ _ k => k)
theorem Frm.grown {row : Option Nat} (h : Frm own w w') (hg : w'.grownBy w'' row) (hr : ∀ b, row = some b → b < w.heap.size → own b) : Frm own w w'' :=
  ⟨hg.os.trans h.os, hg.tape.trans h.tape, hg.output.trans h.output, Nat.le_trans h.size hg.size, fun k hk hn => (hg.block k (Nat.lt_of_lt_of_le hk h.size) (fun e => hn (hr k e.symm hk))).trans (h.block k hk hn)⟩
theorem Frm.cell (h : Frm own w w') {b o : Nat} {v : Value} (hc : w.cell? ⟨b, o, none⟩ = some v) (hn : ¬ own b) : w'.cell? ⟨b, o, none⟩ = some v := by
  rw [← hc]
  exact World.cell?_of_block (h.block b (World.block_lt_of_cell? w ⟨b, o, none⟩ hc) hn)
theorem Frm.row {B n C : Nat} {T : TypeId} {v : Value} {xs : List Value} (h : Frm own w w') (ho : w.ownsRow B T C v n xs) (hn : ∀ r, v.ownBlock = some r → ¬ own r) : w'.ownsRow B T C v n xs := by
  refine ⟨ho.1, ?_⟩
  rcases ho.2 with k | ⟨g, cap, cur, rfl, hb, hg, k⟩
  · exact .inl k
  · exact .inr ⟨g, cap, cur, rfl, hb, (h.block g (Array.getElem?_eq_some_iff.1 hg).1 (hn g rfl)).trans hg, k⟩
end
/-- a list that a book holds, and its number -/
structure Hd where
  v : Value
  len : Nat
  n : Nat
def Own (hs : List Hd) (r : Nat) : Prop := ∃ h ∈ hs, h.v.ownBlock = some r
/-- no two of them lie in one block -/
def Apt (hs : List Hd) : Prop := ∀ i j (hi : i < hs.length) (hj : j < hs.length) r, hs[i].v.ownBlock = some r → hs[j].v.ownBlock = some r → i = j
/-- the book's row: what it holds of each list -/
def RowAt (w : World) (T : TypeId) (q : Nat) (hs : List Hd) (lo : Nat → Value) : Prop :=
  (∃ cur, w.heap[q]? = some (.cells cur T (0, 0)) ∧ hs.length * 3 ≤ cur.size) ∧ ∀ i (h : i < hs.length), w.cell? ⟨q, i * 3, none⟩ = some hs[i].v ∧ w.cell? ⟨q, i * 3 + 1, none⟩ = some (lo i) ∧ w.cell? ⟨q, i * 3 + 2, none⟩ = some (.int .i64 (hs[i].n : Int))
theorem RowAt.frm {own : Nat → Prop} {w w' : World} {T : TypeId} {q : Nat} {hs : List Hd} {lo : Nat → Value} (h : RowAt w T q hs lo) (hf : Frm own w w') (hn : ¬ own q) : RowAt w' T q hs lo := by
  obtain ⟨⟨cur, h1, h2⟩, h3⟩ := h
  exact ⟨⟨cur, (hf.block q (Array.getElem?_eq_some_iff.1 h1).1 hn).trans h1, h2⟩, fun i hi => ⟨hf.cell (h3 i hi).1 hn, hf.cell (h3 i hi).2.1 hn, hf.cell (h3 i hi).2.2 hn⟩⟩
theorem RowAt.set {w : World} {T : TypeId} {q : Nat} {hs : List Hd} {lo : Nat → Value} (h : RowAt w T q hs lo) (i : Nat) (hi : i < hs.length) (v : Value) : RowAt (w.setCell ⟨q, i * 3 + 1, none⟩ v) T q hs (fun j => if j = i then v else lo j) := by
  obtain ⟨⟨cur, h1, h2⟩, h3⟩ := h
  refine ⟨⟨cur.setIfInBounds (i * 3 + 1) v, heap_setCell_same w q (i * 3 + 1) cur T v h1, by simpa using h2⟩, fun j hj => ⟨?_, ?_, ?_⟩⟩
  · rw [World.cell?_setCell_other w _ _ _ (fun e => by injection e with e1 e2; omega)]
    exact (h3 j hj).1
  · by_cases e : j = i
    · subst e
      show _ = some (if j = j then v else lo j)
      rw [if_pos rfl]
      exact World.cell?_setCell_same w _ _ (h3 j hj).2.1
    · show _ = some (if j = i then v else lo j)
      rw [if_neg e, World.cell?_setCell_other w _ _ _ (fun e' => by injection e' with e1 e2; omega)]
      exact (h3 j hj).2.1
  · rw [World.cell?_setCell_other w _ _ _ (fun e => by injection e with e1 e2; omega)]
    exact (h3 j hj).2.2
theorem RowAt.frozen {w : World} {T : TypeId} {q : Nat} {hs : List Hd} {lo : Nat → Value} (h : RowAt w T q hs lo) (o : Nat) : w.frozen? ⟨q, o, none⟩ = false := by
  obtain ⟨⟨cur, h1, _⟩, _⟩ := h
  exact Lib.frozen_of_heap h1 o
theorem RowAt.lt {w : World} {T : TypeId} {q : Nat} {hs : List Hd} {lo : Nat → Value} (h : RowAt w T q hs lo) : q < w.heap.size := by
  obtain ⟨⟨cur, h1, _⟩, _⟩ := h
  exact (Array.getElem?_eq_some_iff.1 h1).1
/-- so many marks stand in the list -/
def MkV (C : Nat) (mk : List Value) (ok : Nat → Prop) (w : World) (v : Value) (m : Nat) : Prop :=
  ∃ A c, v = .slice A m c ∧ (0 < m → ∃ g, A = some ⟨g, 0, none⟩ ∧ ok g ∧ g < w.heap.size ∧ ∀ t, t < m → ∀ i u, mk[i]? = some u → w.cell? ⟨g, t * C + i, none⟩ = some u)
theorem MkV.frm {own ok : Nat → Prop} {C : Nat} {mk : List Value} {w w' : World} {v : Value} {m : Nat} (h : MkV C mk ok w v m) (hf : Frm own w w') (hn : ∀ g, ok g → g < w.heap.size → ¬ own g) : MkV C mk ok w' v m := by
  obtain ⟨A, c, e, h⟩ := h
  refine ⟨A, c, e, fun h0 => ?_⟩
  obtain ⟨g, e1, h1, h2, h3⟩ := h h0
  exact ⟨g, e1, h1, Nat.lt_of_lt_of_le h2 hf.size, fun t ht i u hu => hf.cell (h3 t ht i u hu) (hn g h1 h2)⟩
theorem MkV.mono {ok ok' : Nat → Prop} {C : Nat} {mk : List Value} {w : World} {v : Value} {m : Nat} (h : MkV C mk ok w v m) (hk : ∀ g, ok g → g < w.heap.size → ok' g) : MkV C mk ok' w v m := by
  obtain ⟨A, c, e, h⟩ := h
  refine ⟨A, c, e, fun h0 => ?_⟩
  obtain ⟨g, e1, h1, h2, h3⟩ := h h0
  exact ⟨g, e1, hk g h1 h2, h2, h3⟩
theorem MkV.get {ok : Nat → Prop} {C : Nat} {mk : List Value} {w : World} {A : Option Addr} {m n c : Nat} (h : MkV C mk ok w (.slice A n c) m) (t : Nat) (ht : t < m) : ∃ g, A = some ⟨g, 0, none⟩ ∧ ok g ∧ g < w.heap.size ∧ ∀ i u, mk[i]? = some u → w.cell? ⟨g, t * C + i, none⟩ = some u := by
  obtain ⟨A', c', e, h⟩ := h
  cases e
  obtain ⟨g, e1, h1, h2, h3⟩ := h (by omega)
  exact ⟨g, e1, h1, h2, h3 t ht⟩
theorem MkV.slice {ok : Nat → Prop} {C : Nat} {mk : List Value} {w : World} {v : Value} {m : Nat} (h : MkV C mk ok w v m) : ∃ A c, v = .slice A m c := by
  obtain ⟨A, c, e, _⟩ := h
  exact ⟨A, c, e⟩
def marks (mk : List Value) (m : Nat) : List Value := (List.replicate m mk).flatten
theorem marks_succ (mk : List Value) (m : Nat) : marks mk m ++ mk = marks mk (m + 1) := by
  unfold marks
  rw [List.replicate_succ', List.flatten_append]
  simp
theorem marks_len {mk : List Value} {C : Nat} (h : mk.length = C) (m : Nat) : (marks mk m).length = m * C := by
  unfold marks
  simp [h]
theorem marks_get {mk : List Value} {C : Nat} (h : mk.length = C) {m t i : Nat} {u : Value} (ht : t < m) (hu : mk[i]? = some u) : (marks mk m)[t * C + i]? = some u := by
  have hi : i < C := by have := (List.getElem?_eq_some_iff.1 hu).1; omega
  induction m generalizing t with
  | zero => omega
  | succ m ih =>
    have hs : marks mk (m + 1) = mk ++ marks mk m := by unfold marks; rw [List.replicate_succ, List.flatten_cons]
    rw [hs]
    cases t with
    | zero =>
      rw [Nat.zero_mul, Nat.zero_add, List.getElem?_append_left (by omega)]
      exact hu
    | succ t =>
      rw [List.getElem?_append_right (by rw [h, Nat.succ_mul]; omega), h, show (t + 1) * C + i - C = t * C + i by rw [Nat.succ_mul]; omega]
      exact ih (by omega)
theorem row_slice {w : World} {B n C : Nat} {T : TypeId} {v : Value} {xs : List Value} (h : w.ownsRow B T C v n xs) : ∃ A c, v = .slice A n c ∧ (0 < n → ∃ g, A = some ⟨g, 0, none⟩) := by
  rcases h.2 with ⟨rfl, rfl⟩ | ⟨g, cap, cur, rfl, _⟩
  · exact ⟨none, 0, rfl, fun h => by omega⟩
  · exact ⟨_, _, rfl, fun _ => ⟨g, rfl⟩⟩
theorem row_mkv {w : World} {B C : Nat} {T : TypeId} {v : Value} {mk : List Value} {m : Nat} (hC : mk.length = C) (h : w.ownsRow B T C v m (marks mk m)) : MkV C mk (fun g => v.ownBlock = some g) w v m := by
  obtain ⟨A, c, rfl, hA⟩ := row_slice h
  refine ⟨A, c, rfl, fun h0 => ?_⟩
  obtain ⟨g, rfl⟩ := hA h0
  refine ⟨g, rfl, rfl, (h.lt g rfl).2, fun t ht i u hu => ?_⟩
  have hi : i < C := by have := (List.getElem?_eq_some_iff.1 hu).1; omega
  rw [h.cellAt (t * C + i) (by
    have h1 : (t + 1) * C ≤ m * C := Nat.mul_le_mul_right _ ht
    rw [Nat.succ_mul] at h1
    omega)]
  exact marks_get hC ht hu
/-- a row, more than so much of which is looked at -/
theorem row_mkv_le {w : World} {B C : Nat} {T : TypeId} {v : Value} {A : Option Addr} {c : Nat} {mk : List Value} {m k : Nat} {ok : Nat → Prop} (hC : mk.length = C) (h : w.ownsRow B T C v (m + k) (marks mk (m + k))) (hv : (Value.slice A m c).ownBlock = v.ownBlock) (hok : ∀ g, v.ownBlock = some g → ok g) (hA : 0 < m → ∃ g, A = some ⟨g, 0, none⟩) : MkV C mk ok w (.slice A m c) m := by
  refine ⟨A, c, rfl, fun h0 => ?_⟩
  obtain ⟨g, rfl⟩ := hA h0
  have hg : v.ownBlock = some g := hv.symm
  obtain ⟨A', c', rfl, hA'⟩ := row_slice h
  obtain ⟨g', rfl⟩ := hA' (by omega)
  have e : g' = g := by
    have h2 : some g' = some g := hg
    injection h2
  subst e
  refine ⟨g', rfl, hok g' rfl, (h.lt g' rfl).2, fun t ht i u hu => ?_⟩
  have hi : i < C := by have := (List.getElem?_eq_some_iff.1 hu).1; omega
  rw [h.cellAt (t * C + i) (by
    have h1 : (t + 1) * C ≤ (m + k) * C := Nat.mul_le_mul_right _ (by omega)
    rw [Nat.succ_mul] at h1
    omega)]
  exact marks_get hC (by omega) hu
section
variable {P : Program} (w : World)
/-- the kit's law of an append on a row of its own: where the row lies behind it, and that nothing else has turned -/
theorem append_own2 (base : Nat) (t ty e : TypeId) (i : TypeInfo) (z : Value) (size bytes : Nat) (ht : P.underlying t = some (.slice e)) (hi : P.info? e = some i) (hz : i.zero = some z)
    (hsize : i.size = size) (hby : i.bytes = bytes) (hzs : z.cells.size = size) (hsz : 0 < size)
    (v : Value) (n : Nat) (xs : List Value) (hown : w.ownsRow base e size v n xs)
    (a : Addr) (m c : Nat) (news : List Value) (hl : news.length = m * size) (hm : 0 < m) (hnews : ∀ j u, news[j]? = some u → w.cell? (a.add j) = some u) (h1 : ∀ u ∈ news, u.oneCell' = true)
    (h63 : n + m ≤ maxLen) (hbytes : (n + m) * bytes ≤ 140737488355328) (hbase : base ≤ w.heap.size) :
    ∃ v' w', (Builtin.append_ #[t, t] ty #[v, .slice (some a) m c]).run P w = .ok v' w' ∧ w'.ownsRow base e size v' (n + m) (xs ++ news) ∧
      ((v'.ownBlock = v.ownBlock ∧ w.grownBy w' v.ownBlock) ∨ (∃ r, v'.ownBlock = some r ∧ w.heap.size ≤ r) ∧ w.grownBy w' none) := by
  obtain ⟨v', w', hr, h2, h3, h4⟩ := run_append_own (P := P) w base t ty e i z size bytes ht hi hz hsize hby hzs hsz v n xs hown a m c news hl hnews h1 h63 hbytes hbase
  refine ⟨v', w', hr, h2, ?_⟩
  subst hsize
  subst hby
  have hgn : ∀ o, w.grownBy (w.drew.alloc o) none := fun o => (show w.grownBy (w.drew.alloc o) none from ⟨rfl, rfl, rfl, by show w.heap.size ≤ (w.drew.alloc o).heap.size; simp, fun k hk _ => heap_alloc_old w.drew o hk⟩)
  have hsmall : n + m ≤ 9223372036854775807 := by simp only [maxLen] at h63; omega
  rcases hown.2 with ⟨rfl, rfl⟩ | ⟨g, cap, cur, rfl, hbg, hg, hnc, hcm, hcs, htake⟩
  · have hr2 := run_append_nil (P := P) w t ty e i z ht hi hz a m c news hl hnews (by omega) (by omega) (by have hb := hbytes; simp only [Nat.zero_add] at hb; omega)
    rw [hr2] at hr
    injection hr with e1 e2
    rw [← e1, ← e2]
    exact .inr ⟨⟨w.heap.size, rfl, Nat.le_refl _⟩, hgn _⟩
  · by_cases hroom : n + m ≤ cap
    · have hfit : n * i.size + news.length ≤ cur.size := by rw [hl, hcs, ← Nat.add_mul]; exact Nat.mul_le_mul_right _ hroom
      have hr2 := run_append_room (P := P) w t ty e i ht hi g n cap cur hg a m c news hl hnews h1 hroom hfit
      rw [hr2] at hr
      injection hr with e1 e2
      rw [← e1]
      exact .inl ⟨rfl, h3⟩
    · have holds : ∀ j u, xs[j]? = some u → w.cell? ((⟨g, 0, none⟩ : Addr).add j) = some u := hown.cells (g := g) rfl
      have hr2 := run_append_grow (P := P) w t ty e i z ht hi hz ⟨g, 0, none⟩ n cap xs hown.1 holds a m c news hl hnews (by omega) (by omega) (growslice_fits (by omega) hbytes)
      rw [hr2] at hr
      injection hr with e1 e2
      rw [← e1, ← e2]
      exact .inr ⟨⟨w.heap.size, rfl, Nat.le_refl _⟩, hgn _⟩
theorem wpList_append2 {ops : Array Oper} {rest : List Oper} {o : Oper} {a : Act} {Q : Exit → Act → World → Prop} (hgd : o.guard = none) (s x : Operand) (t : TypeId)
    (ho : o.op = .call { callee := .builtin .append, args := #[s, x], argTypes := #[t, t] })
    (base : Nat) (e : TypeId) (i : TypeInfo) (z : Value) (size bytes : Nat) (ht : P.underlying t = some (.slice e)) (hi : P.info? e = some i) (hz : i.zero = some z)
    (hsize : i.size = size) (hby : i.bytes = bytes) (hzs : z.cells.size = size) (hsz : 0 < size)
    (v : Value) (n : Nat) (xs : List Value) (hs : a.eval s = v) (hown : w.ownsRow base e size v n xs)
    (ad : Addr) (m c : Nat) (news : List Value) (hx : a.eval x = .slice (some ad) m c) (hl : news.length = m * size) (hm : 0 < m) (hnews : ∀ j u, news[j]? = some u → w.cell? (ad.add j) = some u) (h1 : ∀ u ∈ news, u.oneCell' = true)
    (h63 : n + m ≤ maxLen) (hbytes : (n + m) * bytes ≤ 140737488355328) (hbase : base ≤ w.heap.size)
    (h : ∀ v' w', w'.ownsRow base e size v' (n + m) (xs ++ news) → ((v'.ownBlock = v.ownBlock ∧ w.grownBy w' v.ownBlock) ∨ (∃ r, v'.ownBlock = some r ∧ w.heap.size ≤ r) ∧ w.grownBy w' none) → wpList P ops Q rest (a.put o.dst v') w') : wpList P ops Q (o :: rest) a w := by
  refine wpList_plain hgd fun K hK => ?_
  obtain ⟨v', w', hr, h2, h3⟩ := append_own2 (P := P) w base t o.type e i z size bytes ht hi hz hsize hby hzs hsz v n xs hown ad m c news hl hm hnews h1 h63 hbytes hbase
  unfold Oper.wp execOp
  simp only [ho, resolve, invoke, builtin, Sem.run_bind, Sem.run_pure, Result.andThen_ok, List.map_toArray, List.map_cons, List.map_nil, hs, hx, hr]
  exact hK _ _ (h v' w' h2 h3)
end
theorem new_cells (w : World) (cs : List Value) (T : TypeId) : ∀ j u, cs[j]? = some u → (w.alloc (.cells cs.toArray T)).cell? ((⟨w.heap.size, 0, none⟩ : Addr).add j) = some u := by
  intro j u hu
  have hadd : (⟨w.heap.size, 0, none⟩ : Addr).add j = ⟨w.heap.size, j, none⟩ := by unfold Addr.add; split <;> simp_all
  rw [hadd, Lib.cell_of_heap (heap_alloc_new w _)]
  simpa using hu
end Go.Proofs.YtnoalklbgncajaaDoor.Bok
