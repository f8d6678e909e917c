/- Chapter 07: a dict, and two rows of the call's own beside it. -/
import Derived.Test.YtnoalklbgncajaaDoorDbo07
namespace Go.Proofs.YtnoalklbgncajaaDoor.Dct
open Go Go.MapKept Go.RowKit Go.Proofs.YtnoalklbgncajaaDoor.Pin Go.Proofs.YtnoalklbgncajaaDoor.Mps Go.Proofs.YtnoalklbgncajaaDoor.Bok Go.Proofs.YtnoalklbgncajaaDoor.Uw Go.Proofs.YtnoalklbgncajaaDoor.Sip
theorem iinfo : (Tryd.prog.info? 3).map (fun i => (i.zero, i.size, i.bytes)) = some (some (.int .i64 0), 1, 8) := by kernel_rfl
/-- a cell of a row of one's own written anew -/
theorem row_set {w : World} {B g n cap i : Nat} {T : TypeId} {xs : List Value} {u : Value} (h : w.ownsRow B T 1 (.slice (some ⟨g, 0, none⟩) n cap) n xs) (_hi : i < n) : (w.setCell ⟨g, i, none⟩ u).ownsRow B T 1 (.slice (some ⟨g, 0, none⟩) n cap) n (xs.set i u) := by
  refine ⟨by rw [List.length_set]; exact h.1, ?_⟩
  rcases h.2 with ⟨h0, _⟩ | ⟨g', cap', cur, e, hb, hg, h1, h2, h3, h4⟩
  · cases h0
  · cases e
    refine .inr ⟨g, cap, cur.setIfInBounds i u, rfl, hb, heap_setCell_same w g i cur T u hg, h1, h2, by simpa using h3, ?_⟩
    rw [Array.toList_setIfInBounds, List.take_set, h4]
/-- a row of one's own, its last taken off -/
theorem row_take {w : World} {B n m cap : Nat} {A : Option Addr} {T : TypeId} {xs : List Value} (h : w.ownsRow B T 1 (.slice A n cap) n xs) (hm : m ≤ n) (h0 : 0 < n) : w.ownsRow B T 1 (.slice A m cap) m (xs.take m) := by
  have hx := h.1
  refine ⟨by rw [List.length_take]; omega, ?_⟩
  rcases h.2 with ⟨h0', hn⟩ | ⟨g', cap', cur, e, hb, hg, h1, h2, h3, h4⟩
  · omega
  · cases e
    refine .inr ⟨g', cap, cur, rfl, hb, hg, by omega, h2, h3, ?_⟩
    rw [← h4, List.take_take]
    congr 1
    omega
theorem row_some {w : World} {B n cap : Nat} {A : Option Addr} {T : TypeId} {xs : List Value} (h : w.ownsRow B T 1 (.slice A n cap) n xs) (h0 : 0 < n) : ∃ g cur, A = some ⟨g, 0, none⟩ ∧ w.heap[g]? = some (.cells cur T (0, 0)) := by
  rcases h.2 with ⟨h0', hn⟩ | ⟨g', cap', cur, e, hb, hg, _⟩
  · omega
  · cases e
    exact ⟨g', cur, rfl, hg⟩
structure Mp (w0 w : World) (d : Nat) (s : St) (kv vv : Value) (K : List ByteArray) (V : List Int) : Prop where
  dk : Dk w0.heap.size w d s
  krow : w.ownsRow w0.heap.size 9 1 kv K.length (K.map Value.string)
  vrow : w.ownsRow w0.heap.size 3 1 vv V.length (V.map (Value.int .i64))
  kno : ∀ b, kv.ownBlock = some b → b ∉ s.own d
  vno : ∀ b, vv.ownBlock = some b → b ∉ s.own d
  ne : ∀ b, kv.ownBlock = some b → vv.ownBlock ≠ some b
  bel : Below w0.heap.size w0 w
section
variable {w0 w w' : World} {d : Nat} {s s' : St} {kv vv : Value} {K : List ByteArray} {V : List Int}
theorem Mp.below (h : Mp w0 w d s kv vv K V) (hb : Below w.heap.size w w') : Mp w0 w' d s kv vv K V :=
  ⟨h.dk.below hb, (Frm.of_below (own := fun _ => False) hb).row h.krow (fun _ _ k => k), (Frm.of_below (own := fun _ => False) hb).row h.vrow (fun _ _ k => k), h.kno, h.vno, h.ne, h.bel.trans (hb.mono h.dk.bnd)⟩
theorem Mp.dict (h : Mp w0 w d s kv vv K V) (ht : Trn w w' d s s') : Mp w0 w' d s' kv vv K V := by
  refine ⟨(h.dk.turn ht).1, ht.frm.row h.krow h.kno, ht.frm.row h.vrow h.vno, fun b hb hm => ?_, fun b hb hm => ?_, h.ne, h.bel.trans (h.dk.turn ht).2⟩
  · rcases ht.own b hm with h1 | h1
    · exact h.kno b hb h1
    · have := (h.krow.lt b hb).2; omega
  · rcases ht.own b hm with h1 | h1
    · exact h.vno b hb h1
    · have := (h.vrow.lt b hb).2; omega
/-- what an append does to a row and to what is beside it -/
theorem push_frm {o : Obj} {v v5 : Value} {w5 : World} (hgr : (v5.ownBlock = v.ownBlock ∧ (w.alloc o).grownBy w5 v.ownBlock) ∨ (∃ r, v5.ownBlock = some r ∧ (w.alloc o).heap.size ≤ r) ∧ (w.alloc o).grownBy w5 none) :
    Frm (fun b => v.ownBlock = some b) w w5 ∧ ∀ b, v5.ownBlock = some b → v.ownBlock = some b ∨ w.heap.size ≤ b := by
  have h0 : Frm (fun b => v.ownBlock = some b) w (w.alloc o) := (Frm.refl w).alloc o
  refine ⟨?_, fun b hb => ?_⟩
  · rcases hgr with ⟨_, k⟩ | ⟨_, k⟩
    · exact h0.grown k (fun b hb _ => hb)
    · exact h0.grown k (fun b hb _ => by cases hb)
  · rcases hgr with ⟨k, _⟩ | ⟨⟨r, k, hr⟩, _⟩
    · exact .inl (by rw [← k]; exact hb)
    · rw [k] at hb
      injection hb with hb
      have : (w.alloc o).heap.size = w.heap.size + 1 := by simp
      exact .inr (by omega)
theorem below_of {own : Nat → Prop} (h : Dk w0.heap.size w d s) (hf : Frm own w w') (ho : ∀ b, own b → w0.heap.size ≤ b) : Below w0.heap.size w w' :=
  ⟨hf.os, hf.tape, hf.output, hf.size, fun k hk => hf.block k (Nat.lt_of_lt_of_le hk h.bnd) (fun e => by have := ho k e; omega)⟩
theorem Mp.pushK {o : Obj} {v5 : Value} {w5 : World} {x : ByteArray} (h : Mp w0 w d s kv vv K V) (hown : w5.ownsRow w0.heap.size 9 1 v5 (K.length + 1) (K.map Value.string ++ [.string x]))
    (hgr : (v5.ownBlock = kv.ownBlock ∧ (w.alloc o).grownBy w5 kv.ownBlock) ∨ (∃ r, v5.ownBlock = some r ∧ (w.alloc o).heap.size ≤ r) ∧ (w.alloc o).grownBy w5 none) : Mp w0 w5 d s v5 vv (K ++ [x]) V := by
  obtain ⟨hF, hv⟩ := push_frm hgr
  refine ⟨h.dk.frm hF (fun b hb e => h.kno b e hb), by rw [List.length_append, List.map_append]; exact hown, hF.row h.vrow (fun r hr e => h.ne r e hr), fun b hb hm => ?_, h.vno, fun b hb e => ?_, h.bel.trans (below_of h.dk hF (fun b e => (h.krow.lt b e).1))⟩
  · rcases hv b hb with e | e
    · exact h.kno b e hm
    · have := h.dk.at'.own_lt b hm; omega
  · rcases hv b hb with e2 | e2
    · exact h.ne b e2 e
    · have := (h.vrow.lt b e).2; omega
theorem Mp.pushV {o : Obj} {v5 : Value} {w5 : World} {x : Int} (h : Mp w0 w d s kv vv K V) (hown : w5.ownsRow w0.heap.size 3 1 v5 (V.length + 1) (V.map (Value.int .i64) ++ [.int .i64 x]))
    (hgr : (v5.ownBlock = vv.ownBlock ∧ (w.alloc o).grownBy w5 vv.ownBlock) ∨ (∃ r, v5.ownBlock = some r ∧ (w.alloc o).heap.size ≤ r) ∧ (w.alloc o).grownBy w5 none) : Mp w0 w5 d s kv v5 K (V ++ [x]) := by
  obtain ⟨hF, hv⟩ := push_frm hgr
  refine ⟨h.dk.frm hF (fun b hb e => h.vno b e hb), hF.row h.krow (fun r hr e => h.ne r hr e), by rw [List.length_append, List.map_append]; exact hown, h.kno, fun b hb hm => ?_, fun b hb e => ?_, h.bel.trans (below_of h.dk hF (fun b e => (h.vrow.lt b e).1))⟩
  · rcases hv b hb with e | e
    · exact h.vno b e hm
    · have := h.dk.at'.own_lt b hm; omega
  · rcases hv b e with e2 | e2
    · exact h.ne b hb e2
    · have := (h.krow.lt b hb).2; omega
theorem Mp.setK {g n cap i : Nat} {x : ByteArray} (h : Mp w0 w d s (.slice (some ⟨g, 0, none⟩) n cap) vv K V) (hn : n = K.length) (hi : i < n) : Mp w0 (w.setCell ⟨g, i, none⟩ (.string x)) d s (.slice (some ⟨g, 0, none⟩) n cap) vv (K.set i x) V := by
  subst hn
  have hF : Frm (fun b => b = g) w (w.setCell ⟨g, i, none⟩ (.string x)) := Frm.set (own := fun b => b = g) (Frm.refl w) ⟨g, i, none⟩ _ (fun _ => rfl)
  refine ⟨h.dk.frm hF (fun b hb e => h.kno b (by rw [e]; rfl) hb), ?_, hF.row h.vrow (fun r hr e => h.ne r (by rw [e]; rfl) hr), h.kno, h.vno, h.ne, h.bel.trans (below_of h.dk hF (fun b e => by rw [e]; exact (h.krow.lt g rfl).1))⟩
  rw [List.length_set, List.map_set]
  exact row_set h.krow hi
theorem Mp.setV {g n cap i : Nat} {x : Int} (h : Mp w0 w d s kv (.slice (some ⟨g, 0, none⟩) n cap) K V) (hn : n = V.length) (hi : i < n) : Mp w0 (w.setCell ⟨g, i, none⟩ (.int .i64 x)) d s kv (.slice (some ⟨g, 0, none⟩) n cap) K (V.set i x) := by
  subst hn
  have hF : Frm (fun b => b = g) w (w.setCell ⟨g, i, none⟩ (.int .i64 x)) := Frm.set (own := fun b => b = g) (Frm.refl w) ⟨g, i, none⟩ _ (fun _ => rfl)
  refine ⟨h.dk.frm hF (fun b hb e => h.vno b (by rw [e]; rfl) hb), hF.row h.krow (fun r hr e => h.ne r hr (by rw [e]; rfl)), ?_, h.kno, h.vno, h.ne, h.bel.trans (below_of h.dk hF (fun b e => by rw [e]; exact (h.vrow.lt g rfl).1))⟩
  rw [List.length_set, List.map_set]
  exact row_set h.vrow hi
theorem own_slice (A : Option Addr) (n m c c' : Nat) : (Value.slice A n c).ownBlock = (Value.slice A m c').ownBlock := by
  cases A <;> rfl
theorem Mp.takeK {A : Option Addr} {n m cap : Nat} (h : Mp w0 w d s (.slice A n cap) vv K V) (hn : n = K.length) (hm : m + 1 = n) : Mp w0 w d s (.slice A m cap) vv (K.take m) V := by
  subst hn
  refine ⟨h.dk, ?_, h.vrow, fun b hb => h.kno b (by rw [own_slice A _ m cap cap]; exact hb), h.vno, fun b hb => h.ne b (by rw [own_slice A _ m cap cap]; exact hb), h.bel⟩
  rw [List.length_take, Nat.min_eq_left (by omega), List.map_take]
  exact row_take h.krow (by omega) (by omega)
theorem Mp.takeV {A : Option Addr} {n m cap : Nat} (h : Mp w0 w d s kv (.slice A n cap) K V) (hn : n = V.length) (hm : m + 1 = n) : Mp w0 w d s kv (.slice A m cap) K (V.take m) := by
  subst hn
  refine ⟨h.dk, h.krow, ?_, h.kno, fun b hb => h.vno b (by rw [own_slice A _ m cap cap]; exact hb), fun b hb e => h.ne b hb (by rw [own_slice A _ m cap cap]; exact e), h.bel⟩
  rw [List.length_take, Nat.min_eq_left (by omega), List.map_take]
  exact row_take h.vrow (by omega) (by omega)
end
/-- one pair written anew -/
theorem set_perm {L : Ents} {i : Nat} (hi : i < L.length) (y : ByteArray × Int) : (L.set i y).Perm (y :: L.eraseIdx i) := by
  have h := perm_erase (L.set i y) i (by simpa using hi)
  rw [List.getElem_set_self, List.eraseIdx_set_eq] at h
  exact h
/-- one pair taken out, the last one put in its place -/
theorem drop_perm {L : Ents} {i : Nat} (hi : i < L.length) : ((L.set i (L[L.length - 1]'(by omega))).take (L.length - 1)).Perm (L.eraseIdx i) := by
  have h0 : 0 < L.length := by omega
  obtain ⟨M, z, rfl⟩ : ∃ M z, L = M ++ [z] := ⟨L.dropLast, L.getLast (by intro e; rw [e] at h0; simp at h0), (List.dropLast_concat_getLast _).symm⟩
  have hl : (M ++ [z]).length - 1 = M.length := by simp
  have hz : (M ++ [z])[(M ++ [z]).length - 1]'(by omega) = z := by
    simp
  rw [hz, hl]
  rw [List.length_append, List.length_singleton] at hi
  by_cases he : i = M.length
  · subst he
    rw [List.set_append_right _ _ (Nat.le_refl _), Nat.sub_self, List.eraseIdx_append_of_length_le (Nat.le_refl _), Nat.sub_self]
    simp
  · have hlt : i < M.length := by omega
    rw [List.set_append_left _ _ hlt, List.eraseIdx_append_of_lt_length hlt]
    rw [List.take_left' (by simp)]
    exact (set_perm hlt z).trans (List.perm_append_comm (l₁ := [z]))
end Go.Proofs.YtnoalklbgncajaaDoor.Dct
