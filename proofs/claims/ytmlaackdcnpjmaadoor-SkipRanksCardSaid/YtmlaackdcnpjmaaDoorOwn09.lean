/- Chapter 09: lists in memory of their own, and how they are gathered (Own24's text under another name). -/
import Derived.Test.YtmlaackdcnpjmaaDoorSm09
import Derived.Laws.AppendOwn
import Derived.Lib.Builder
namespace Go.Proofs.YtmlaackdcnpjmaaDoor.Skp
open Go.RowKit Go.Proofs.YtmlaackdcnpjmaaDoor.Pin

section
variable {P : Program} (w : World)
/-- the kit's law of an append on a row of its own, and where the row lies behind it -/
theorem append_own_row (base : Nat) (t ty e : TypeId) (i : TypeInfo) (z : Value) (size bytes : Nat) (ht : P.underlying t = some (.slice e)) (hi : P.info? e = some i) (hz : i.zero = some z)
    (hsize : i.size = size) (hby : i.bytes = bytes) (hzs : z.cells.size = size) (hsz : 0 < size)
    (v : Value) (n : Nat) (xs : List Value) (hown : w.ownsRow base e size v n xs)
    (a : Addr) (m c : Nat) (news : List Value) (hl : news.length = m * size) (hm : 0 < m) (hnews : ∀ j u, news[j]? = some u → w.cell? (a.add j) = some u) (h1 : ∀ u ∈ news, u.oneCell' = true)
    (h63 : n + m ≤ maxLen) (hbytes : (n + m) * bytes ≤ 140737488355328) (hbase : base ≤ w.heap.size) :
    ∃ v' w', (Builtin.append_ #[t, t] ty #[v, .slice (some a) m c]).run P w = .ok v' w' ∧ w'.ownsRow base e size v' (n + m) (xs ++ news) ∧ w.grownBy w' v.ownBlock ∧
      (v'.ownBlock = v.ownBlock ∨ ∃ r, v'.ownBlock = some r ∧ w.heap.size ≤ r) := by
  obtain ⟨v', w', hr, h2, h3, h4⟩ := run_append_own (P := P) w base t ty e i z size bytes ht hi hz hsize hby hzs hsz v n xs hown a m c news hl hnews h1 h63 hbytes hbase
  refine ⟨v', w', hr, h2, h3, ?_⟩
  subst hsize
  subst hby
  have hsmall : n + m ≤ 9223372036854775807 := by simp only [maxLen] at h63; omega
  rcases hown.2 with ⟨rfl, rfl⟩ | ⟨g, cap, cur, rfl, hbg, hg, hnc, hcm, hcs, htake⟩
  · have hr2 := run_append_nil (P := P) w t ty e i z ht hi hz a m c news hl hnews (by omega) (by omega) (by have hb := hbytes; simp only [Nat.zero_add] at hb; omega)
    rw [hr2] at hr
    injection hr with e1 e2
    rw [← e1]
    exact .inr ⟨w.heap.size, rfl, Nat.le_refl _⟩
  · by_cases hroom : n + m ≤ cap
    · have hfit : n * i.size + news.length ≤ cur.size := by rw [hl, hcs, ← Nat.add_mul]; exact Nat.mul_le_mul_right _ hroom
      have hr2 := run_append_room (P := P) w t ty e i ht hi g n cap cur hg a m c news hl hnews h1 hroom hfit
      rw [hr2] at hr
      injection hr with e1 e2
      rw [← e1]
      exact .inl rfl
    · have holds : ∀ j u, xs[j]? = some u → w.cell? ((⟨g, 0, none⟩ : Addr).add j) = some u := hown.cells (g := g) rfl
      have hr2 := run_append_grow (P := P) w t ty e i z ht hi hz ⟨g, 0, none⟩ n cap xs hown.1 holds a m c news hl hnews (by omega) (by omega) (growslice_fits (by omega) hbytes)
      rw [hr2] at hr
      injection hr with e1 e2
      rw [← e1]
      exact .inr ⟨w.heap.size, rfl, Nat.le_refl _⟩
theorem wpList_append_row {ops : Array Oper} {rest : List Oper} {o : Oper} {a : Act} {Q : Exit → Act → World → Prop} (hgd : o.guard = none) (s x : Operand) (t : TypeId)
    (ho : o.op = .call { callee := .builtin .append, args := #[s, x], argTypes := #[t, t] })
    (base : Nat) (e : TypeId) (i : TypeInfo) (z : Value) (size bytes : Nat) (ht : P.underlying t = some (.slice e)) (hi : P.info? e = some i) (hz : i.zero = some z)
    (hsize : i.size = size) (hby : i.bytes = bytes) (hzs : z.cells.size = size) (hsz : 0 < size)
    (v : Value) (n : Nat) (xs : List Value) (hs : a.eval s = v) (hown : w.ownsRow base e size v n xs)
    (ad : Addr) (m c : Nat) (news : List Value) (hx : a.eval x = .slice (some ad) m c) (hl : news.length = m * size) (hm : 0 < m) (hnews : ∀ j u, news[j]? = some u → w.cell? (ad.add j) = some u) (h1 : ∀ u ∈ news, u.oneCell' = true)
    (h63 : n + m ≤ maxLen) (hbytes : (n + m) * bytes ≤ 140737488355328) (hbase : base ≤ w.heap.size)
    (h : ∀ v' w', w'.ownsRow base e size v' (n + m) (xs ++ news) → w.grownBy w' v.ownBlock → (v'.ownBlock = v.ownBlock ∨ ∃ r, v'.ownBlock = some r ∧ w.heap.size ≤ r) → wpList P ops Q rest (a.put o.dst v') w') : wpList P ops Q (o :: rest) a w := by
  refine wpList_plain hgd fun K hK => ?_
  obtain ⟨v', w', hr, h2, h3, h4⟩ := append_own_row (P := P) w base t o.type e i z size bytes ht hi hz hsize hby hzs hsz v n xs hown ad m c news hl hm hnews h1 h63 hbytes hbase
  unfold Oper.wp execOp
  simp only [ho, resolve, invoke, builtin, Sem.run_bind, Sem.run_pure, Result.andThen_ok, List.map_toArray, List.map_cons, List.map_nil, hs, hx, hr]
  exact hK _ _ (h v' w' h2 h3 h4)
end
/-- how an element of a list lies in memory: its cells, and what they lead to, in blocks that are ok -/
structure ElP {α : Type} (El : World → (Nat → Prop) → α → List Value → Prop) : Prop where
  keep : ∀ (w w' : World) (ok : Nat → Prop) (x : α) (cs : List Value), El w ok x cs → w.heap.size ≤ w'.heap.size → (∀ r, ok r → r < w.heap.size → w'.heap[r]? = w.heap[r]?) → El w' ok x cs
  mono : ∀ (w : World) (ok ok' : Nat → Prop) (x : α) (cs : List Value), El w ok x cs → (∀ r, r < w.heap.size → ok r → ok' r) → El w ok' x cs
def Flat {α : Type} (f : α → List Value) (_ : World) (_ : Nat → Prop) (x : α) (cs : List Value) : Prop := cs = f x
theorem flat_el {α : Type} (f : α → List Value) : ElP (Flat f) := ⟨fun _ _ _ _ _ h _ _ => h, fun _ _ _ _ _ h _ => h⟩
/-- a list in memory -/
def LOn {α : Type} (C : Nat) (El : World → (Nat → Prop) → α → List Value → Prop) (w : World) (ok : Nat → Prop) (v : Value) (l : List α) : Prop :=
  ∃ A c, v = .slice A l.length c ∧ (0 < l.length → ∃ r, A = some ⟨r, 0, none⟩ ∧ ok r ∧ r < w.heap.size ∧ ∀ j (h : j < l.length), ∃ cs, cs.length = C ∧ El w ok l[j] cs ∧ ∀ i u, cs[i]? = some u → w.cell? ⟨r, j * C + i, none⟩ = some u)
theorem LOn.keep {α : Type} {C : Nat} {El : World → (Nat → Prop) → α → List Value → Prop} (hE : ElP El) {w w' : World} {ok : Nat → Prop} {v : Value} {l : List α} (h : LOn C El w ok v l) (hs : w.heap.size ≤ w'.heap.size) (hk : ∀ r, ok r → r < w.heap.size → w'.heap[r]? = w.heap[r]?) : LOn C El w' ok v l := by
  obtain ⟨A, c, e, h⟩ := h
  refine ⟨A, c, e, fun h0 => ?_⟩
  obtain ⟨r, e1, h1, h2, h3⟩ := h h0
  refine ⟨r, e1, h1, by omega, fun j hj => ?_⟩
  obtain ⟨cs, k1, k2, k3⟩ := h3 j hj
  refine ⟨cs, k1, hE.keep _ _ _ _ _ k2 hs hk, fun i u hu => ?_⟩
  have := k3 i u hu
  unfold World.cell? at this ⊢
  simp only at this ⊢
  rw [hk r h1 h2]
  exact this
theorem LOn.mono {α : Type} {C : Nat} {El : World → (Nat → Prop) → α → List Value → Prop} (hE : ElP El) {w : World} {ok ok' : Nat → Prop} {v : Value} {l : List α} (h : LOn C El w ok v l) (hk : ∀ r, r < w.heap.size → ok r → ok' r) : LOn C El w ok' v l := by
  obtain ⟨A, c, e, h⟩ := h
  refine ⟨A, c, e, fun h0 => ?_⟩
  obtain ⟨r, e1, h1, h2, h3⟩ := h h0
  refine ⟨r, e1, hk r h2 h1, h2, fun j hj => ?_⟩
  obtain ⟨cs, k1, k2, k3⟩ := h3 j hj
  exact ⟨cs, k1, hE.mono _ _ _ _ _ k2 hk, k3⟩
theorem lon_el {α : Type} {C : Nat} {El : World → (Nat → Prop) → α → List Value → Prop} (hE : ElP El) : ElP (fun w ok (l : List α) cs => ∃ v, cs = [v] ∧ LOn C El w ok v l) :=
  ⟨fun _ _ _ _ _ ⟨v, e, h⟩ hs hk => ⟨v, e, h.keep hE hs hk⟩, fun _ _ _ _ _ ⟨v, e, h⟩ hk => ⟨v, e, h.mono hE hk⟩⟩
/-- a list that is being gathered -/
def Acc {α : Type} (T : TypeId) (C : Nat) (El : World → (Nat → Prop) → α → List Value → Prop) (B : Nat) (w : World) (out : Value) (ls : List α) : Prop :=
  ∃ css : List (List Value), css.length = ls.length ∧ w.ownsRow B T C out ls.length css.flatten ∧ ∀ j (h : j < ls.length) (h' : j < css.length), css[j].length = C ∧ El w (fun r => B ≤ r ∧ out.ownBlock ≠ some r) ls[j] css[j]
section
variable {α : Type} {T : TypeId} {C B : Nat} {El : World → (Nat → Prop) → α → List Value → Prop}
theorem acc_nil (w : World) : Acc T C El B w (.slice none 0 0) [] := ⟨[], rfl, World.ownsRow_nil w B T C, fun _ h => absurd h (Nat.not_lt_zero _)⟩
theorem Acc.slice {w : World} {out : Value} {ls : List α} (h : Acc T C El B w out ls) : ∃ A c, out = .slice A ls.length c := by
  obtain ⟨css, _, h2, _⟩ := h
  rcases h2.2 with ⟨rfl, hn⟩ | ⟨g, cap, cur, rfl, _⟩
  · exact ⟨none, 0, by rw [hn]⟩
  · exact ⟨_, _, rfl⟩
theorem flat_get {css : List (List Value)} (h : ∀ cs ∈ css, cs.length = C) : ∀ j i, i < C → css.flatten[j * C + i]? = (css[j]?).bind (·[i]?) := by
  intro j
  induction css generalizing j with
  | nil => intro i _; simp
  | cons c css ih =>
    intro i hi
    have hc := h c (by simp)
    cases j with
    | zero =>
      rw [Nat.zero_mul, Nat.zero_add, List.flatten_cons, List.getElem?_append_left (by omega)]
      rfl
    | succ j =>
      rw [List.flatten_cons, List.getElem?_append_right (by rw [hc, Nat.succ_mul]; omega), hc, show (j + 1) * C + i - C = j * C + i by rw [Nat.succ_mul]; omega, ih (fun cs hcs => h cs (by simp [hcs])) j i hi]
      simp
theorem Acc.lon {w : World} {out : Value} {ls : List α} (hE : ElP El) (h : Acc T C El B w out ls) : LOn C El w (fun r => B ≤ r) out ls := by
  have hsl := h.slice
  obtain ⟨css, h1, h2, h3⟩ := h
  obtain ⟨A, c, e⟩ := hsl
  refine ⟨A, c, e, fun h0 => ?_⟩
  rcases h2.2 with ⟨_, hn⟩ | ⟨r, cap, cur, e2, hb, hgg, h4, h5, h6, h7⟩
  · omega
  · rw [e2] at e
    injection e with e3 e4 e5
    refine ⟨r, e3.symm, hb, (Array.getElem?_eq_some_iff.1 hgg).1, fun j hj => ?_⟩
    have hj' : j < css.length := by omega
    obtain ⟨k1, k2⟩ := h3 j hj hj'
    refine ⟨css[j], k1, hE.mono _ _ _ _ _ k2 (fun r _ hr => hr.1), fun i u hu => ?_⟩
    have hi : i < C := by have := (List.getElem?_eq_some_iff.1 hu).1; omega
    have hf := flat_get (C := C) (css := css) (fun cs hcs => by
      obtain ⟨q, hq, rfl⟩ := List.getElem_of_mem hcs
      exact (h3 q (by omega) hq).1) j i hi
    rw [List.getElem?_eq_getElem hj'] at hf
    simp only [Option.bind_some] at hf
    rw [hu, ← h7, List.getElem?_take] at hf
    split at hf
    · rw [Lib.cell_of_heap hgg]
      simpa using hf
    · cases hf
/-- one more -/
theorem Acc.app (hE : ElP El) {w w1 w' : World} {out out' : Value} {ls : List α} {x : α} {cs : List Value} {o : Obj} {css : List (List Value)} (h1 : css.length = ls.length) (h3 : ∀ j (h : j < ls.length) (h' : j < css.length), css[j].length = C ∧ El w1 (fun r => B ≤ r ∧ out.ownBlock ≠ some r) ls[j] css[j]) (hlt : ∀ r, out.ownBlock = some r → r < w.heap.size) (hB : B ≤ w.heap.size)
    (hx : El w1 (fun r => w.heap.size ≤ r) x cs) (hc : cs.length = C)
    (hown : w'.ownsRow B T C out' (ls.length + 1) (css.flatten ++ cs)) (hgr : (w1.alloc o).grownBy w' out.ownBlock) (hrow : out'.ownBlock = out.ownBlock ∨ ∃ r, out'.ownBlock = some r ∧ w1.heap.size + 1 ≤ r) : Acc T C El B w' out' (ls ++ [x]) := by
  have hsz1 : w1.heap.size + 1 = (w1.alloc o).heap.size := by simp
  have hkeep : ∀ r, r < w1.heap.size → out.ownBlock ≠ some r → w'.heap[r]? = w1.heap[r]? := fun r hr hne => (hgr.block r (by omega) (fun e => hne e.symm)).trans (heap_alloc_old w1 o hr)
  have hw' : w1.heap.size ≤ w'.heap.size := by have := hgr.size; omega
  have hnew : ∀ r, r < w1.heap.size → out.ownBlock ≠ some r → out'.ownBlock ≠ some r := fun r hr hne => by
    rcases hrow with e | ⟨q, e, hq⟩
    · rw [e]; exact hne
    · rw [e]; intro e2; have : q = r := by simpa using e2
      omega
  refine ⟨css ++ [cs], by simp [h1], by simpa using hown, fun j hj hj' => ?_⟩
  by_cases hjl : j < ls.length
  · have hjc : j < css.length := by omega
    rw [List.getElem_append_left hjl, List.getElem_append_left hjc]
    refine ⟨(h3 j hjl hjc).1, ?_⟩
    have a1 := hE.mono w1 _ (fun r => B ≤ r ∧ out.ownBlock ≠ some r ∧ out'.ownBlock ≠ some r) _ _ (h3 j hjl hjc).2 (fun r hr ⟨a1, a2⟩ => ⟨a1, a2, hnew r hr a2⟩)
    have a2 := hE.keep w1 w' _ _ _ a1 hw' (fun r hr hlt' => hkeep r hlt' hr.2.1)
    exact hE.mono _ _ _ _ _ a2 (fun r _ hr => ⟨hr.1, hr.2.2⟩)
  · obtain rfl : j = ls.length := by simp at hj; omega
    have e1 : (ls ++ [x])[ls.length]'hj = x := by simp
    have e2 : (css ++ [cs])[ls.length]'hj' = cs := by
      have : ls.length = css.length := h1.symm
      simp [this]
    rw [e1, e2]
    refine ⟨hc, ?_⟩
    have a1 := hE.mono w1 _ (fun r => B ≤ r ∧ out.ownBlock ≠ some r ∧ out'.ownBlock ≠ some r) _ _ hx (fun r hr ha => by
      have hne : out.ownBlock ≠ some r := fun e => by have := hlt r e; omega
      exact ⟨by omega, hne, hnew r hr hne⟩)
    have a2 := hE.keep w1 w' _ _ _ a1 hw' (fun r hr hlt' => hkeep r hlt' hr.2.1)
    exact hE.mono _ _ _ _ _ a2 (fun r _ hr => ⟨hr.1, hr.2.2⟩)
end
end Go.Proofs.YtmlaackdcnpjmaaDoor.Skp
