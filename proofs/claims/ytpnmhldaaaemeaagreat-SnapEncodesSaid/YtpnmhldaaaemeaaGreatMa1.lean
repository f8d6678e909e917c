import Derived.Test.YtpnmhldaaaemeaaGreatMa0
import Derived.Laws.AppendOwn
import Derived.Lib.Builder
import Derived.OwnWalk
import Derived.WalkKit
import Derived.LoopTactic
/- Chapter 24: lists in memory of their own, and how they are gathered. -/
namespace Go.Proofs.YtpnmhldaaaemeaaGreat.Snp
open Go.RowKit Go.Proofs.YtpnmhldaaaemeaaGreat.Pin

section
variable {P : Program} (w : World)
/-- the kit's law of an append on a row of its own, and where the row lies behind it -/
theorem append_own_row (base : Nat) (t ty e : TypeId) (i : TypeInfo) (z : Value) (size bytes : Nat) (ht : P.underlying t = some (.slice e)) (hi : P.info? e = some i) (hz : i.zero = some z)
    (hsize : i.size = size) (hby : i.bytes = bytes) (hzs : z.cells.size = size) (hsz : 0 < size)
    (v : Value) (n : Nat) (xs : List Value) (hown : w.ownsRow base e size v n xs)
    (a : Addr) (m c : Nat) (news : List Value) (hl : news.length = m * size) (hm : 0 < m) (hnews : ∀ j u, news[j]? = some u → w.cell? (a.add j) = some u) (h1 : ∀ u ∈ news, u.oneCell' = true)
    (h63 : n + m ≤ maxLen) (hbytes : (n + m) * bytes ≤ 140737488355328) (hbase : base ≤ w.heap.size) :
    ∃ v' w', (Builtin.append_ #[t, t] ty #[v, .slice (some a) m c]).run P w = .ok v' w' ∧ w'.ownsRow base e size v' (n + m) (xs ++ news) ∧ w.grownBy w' v.ownBlock ∧
      (v'.ownBlock = v.ownBlock ∨ ∃ r, v'.ownBlock = some r ∧ w.heap.size ≤ r) := by
  obtain ⟨v', w', hr, h2, h3, h4⟩ := run_append_own (P := P) w base t ty e i z size bytes ht hi hz hsize hby hzs hsz v n xs hown a m c news hl hnews h1 h63 hbytes hbase
  refine ⟨v', w', hr, h2, h3, ?_⟩
  subst hsize
  subst hby
  have hsmall : n + m ≤ 9223372036854775807 := by simp only [maxLen] at h63; omega
  rcases hown.2 with ⟨rfl, rfl⟩ | ⟨g, cap, cur, rfl, hbg, hg, hnc, hcm, hcs, htake⟩
  · have hr2 := run_append_nil (P := P) w t ty e i z ht hi hz a m c news hl hnews (by omega) (by omega) (by have hb := hbytes; simp only [Nat.zero_add] at hb; omega)
    rw [hr2] at hr
    injection hr with e1 e2
    rw [← e1]
    exact .inr ⟨w.heap.size, rfl, Nat.le_refl _⟩
  · by_cases hroom : n + m ≤ cap
    · have hfit : n * i.size + news.length ≤ cur.size := by rw [hl, hcs, ← Nat.add_mul]; exact Nat.mul_le_mul_right _ hroom
      have hr2 := run_append_room (P := P) w t ty e i ht hi g n cap cur hg a m c news hl hnews h1 hroom hfit
      rw [hr2] at hr
      injection hr with e1 e2
      rw [← e1]
      exact .inl rfl
    · have holds : ∀ j u, xs[j]? = some u → w.cell? ((⟨g, 0, none⟩ : Addr).add j) = some u := hown.cells (g := g) rfl
      have hr2 := run_append_grow (P := P) w t ty e i z ht hi hz ⟨g, 0, none⟩ n cap xs hown.1 holds a m c news hl hnews (by omega) (by omega) (growslice_fits (by omega) hbytes)
      rw [hr2] at hr
      injection hr with e1 e2
      rw [← e1]
      exact .inr ⟨w.heap.size, rfl, Nat.le_refl _⟩
theorem wpList_append_row {ops : Array Oper} {rest : List Oper} {o : Oper} {a : Act} {Q : Exit → Act → World → Prop} (hgd : o.guard = none) (s x : Operand) (t : TypeId)
    (ho : o.op = .call { callee := .builtin .append, args := #[s, x], argTypes := #[t, t] })
    (base : Nat) (e : TypeId) (i : TypeInfo) (z : Value) (size bytes : Nat) (ht : P.underlying t = some (.slice e)) (hi : P.info? e = some i) (hz : i.zero = some z)
    (hsize : i.size = size) (hby : i.bytes = bytes) (hzs : z.cells.size = size) (hsz : 0 < size)
    (v : Value) (n : Nat) (xs : List Value) (hs : a.eval s = v) (hown : w.ownsRow base e size v n xs)
    (ad : Addr) (m c : Nat) (news : List Value) (hx : a.eval x = .slice (some ad) m c) (hl : news.length = m * size) (hm : 0 < m) (hnews : ∀ j u, news[j]? = some u → w.cell? (ad.add j) = some u) (h1 : ∀ u ∈ news, u.oneCell' = true)
    (h63 : n + m ≤ maxLen) (hbytes : (n + m) * bytes ≤ 140737488355328) (hbase : base ≤ w.heap.size)
    (h : ∀ v' w', w'.ownsRow base e size v' (n + m) (xs ++ news) → w.grownBy w' v.ownBlock → (v'.ownBlock = v.ownBlock ∨ ∃ r, v'.ownBlock = some r ∧ w.heap.size ≤ r) → wpList P ops Q rest (a.put o.dst v') w') : wpList P ops Q (o :: rest) a w := by
  refine wpList_plain hgd fun K hK => ?_
  obtain ⟨v', w', hr, h2, h3, h4⟩ := append_own_row (P := P) w base t o.type e i z size bytes ht hi hz hsize hby hzs hsz v n xs hown ad m c news hl hm hnews h1 h63 hbytes hbase
  unfold Oper.wp execOp
  simp only [ho, resolve, invoke, builtin, Sem.run_bind, Sem.run_pure, Result.andThen_ok, List.map_toArray, List.map_cons, List.map_nil, hs, hx, hr]
  exact hK _ _ (h v' w' h2 h3 h4)
end
/-- how an element of a list lies in memory: its cells, and what they lead to, in blocks that are ok -/
structure ElP {α : Type} (El : World → (Nat → Prop) → α → List Value → Prop) : Prop where
  keep : ∀ (w w' : World) (ok : Nat → Prop) (x : α) (cs : List Value), El w ok x cs → w.heap.size ≤ w'.heap.size → (∀ r, ok r → r < w.heap.size → w'.heap[r]? = w.heap[r]?) → El w' ok x cs
  mono : ∀ (w : World) (ok ok' : Nat → Prop) (x : α) (cs : List Value), El w ok x cs → (∀ r, r < w.heap.size → ok r → ok' r) → El w ok' x cs
def Flat {α : Type} (f : α → List Value) (_ : World) (_ : Nat → Prop) (x : α) (cs : List Value) : Prop := cs = f x
theorem flat_el {α : Type} (f : α → List Value) : ElP (Flat f) := ⟨fun _ _ _ _ _ h _ _ => h, fun _ _ _ _ _ h _ => h⟩
/-- a list in memory -/
def LOn {α : Type} (C : Nat) (El : World → (Nat → Prop) → α → List Value → Prop) (w : World) (ok : Nat → Prop) (v : Value) (l : List α) : Prop :=
  ∃ A c, v = .slice A l.length c ∧ (0 < l.length → ∃ r, A = some ⟨r, 0, none⟩ ∧ ok r ∧ r < w.heap.size ∧ ∀ j (h : j < l.length), ∃ cs, cs.length = C ∧ El w ok l[j] cs ∧ ∀ i u, cs[i]? = some u → w.cell? ⟨r, j * C + i, none⟩ = some u)
theorem LOn.keep {α : Type} {C : Nat} {El : World → (Nat → Prop) → α → List Value → Prop} (hE : ElP El) {w w' : World} {ok : Nat → Prop} {v : Value} {l : List α} (h : LOn C El w ok v l) (hs : w.heap.size ≤ w'.heap.size) (hk : ∀ r, ok r → r < w.heap.size → w'.heap[r]? = w.heap[r]?) : LOn C El w' ok v l := by
  obtain ⟨A, c, e, h⟩ := h
  refine ⟨A, c, e, fun h0 => ?_⟩
  obtain ⟨r, e1, h1, h2, h3⟩ := h h0
  refine ⟨r, e1, h1, by omega, fun j hj => ?_⟩
  obtain ⟨cs, k1, k2, k3⟩ := h3 j hj
  refine ⟨cs, k1, hE.keep _ _ _ _ _ k2 hs hk, fun i u hu => ?_⟩
  have := k3 i u hu
  unfold World.cell? at this ⊢
  simp only at this ⊢
  rw [hk r h1 h2]
  exact this
theorem LOn.mono {α : Type} {C : Nat} {El : World → (Nat → Prop) → α → List Value → Prop} (hE : ElP El) {w : World} {ok ok' : Nat → Prop} {v : Value} {l : List α} (h : LOn C El w ok v l) (hk : ∀ r, r < w.heap.size → ok r → ok' r) : LOn C El w ok' v l := by
  obtain ⟨A, c, e, h⟩ := h
  refine ⟨A, c, e, fun h0 => ?_⟩
  obtain ⟨r, e1, h1, h2, h3⟩ := h h0
  refine ⟨r, e1, hk r h2 h1, h2, fun j hj => ?_⟩
  obtain ⟨cs, k1, k2, k3⟩ := h3 j hj
  exact ⟨cs, k1, hE.mono _ _ _ _ _ k2 hk, k3⟩
theorem lon_el {α : Type} {C : Nat} {El : World → (Nat → Prop) → α → List Value → Prop} (hE : ElP El) : ElP (fun w ok (l : List α) cs => ∃ v, cs = [v] ∧ LOn C El w ok v l) :=
  ⟨fun _ _ _ _ _ ⟨v, e, h⟩ hs hk => ⟨v, e, h.keep hE hs hk⟩, fun _ _ _ _ _ ⟨v, e, h⟩ hk => ⟨v, e, h.mono hE hk⟩⟩
/-- a list that is being gathered -/
def Acc {α : Type} (T : TypeId) (C : Nat) (El : World → (Nat → Prop) → α → List Value → Prop) (B : Nat) (w : World) (out : Value) (ls : List α) : Prop :=
  ∃ css : List (List Value), css.length = ls.length ∧ w.ownsRow B T C out ls.length css.flatten ∧ ∀ j (h : j < ls.length) (h' : j < css.length), css[j].length = C ∧ El w (fun r => B ≤ r ∧ out.ownBlock ≠ some r) ls[j] css[j]
section
variable {α : Type} {T : TypeId} {C B : Nat} {El : World → (Nat → Prop) → α → List Value → Prop}
theorem acc_nil (w : World) : Acc T C El B w (.slice none 0 0) [] := ⟨[], rfl, World.ownsRow_nil w B T C, fun _ h => absurd h (Nat.not_lt_zero _)⟩
theorem Acc.slice {w : World} {out : Value} {ls : List α} (h : Acc T C El B w out ls) : ∃ A c, out = .slice A ls.length c := by
  obtain ⟨css, _, h2, _⟩ := h
  rcases h2.2 with ⟨rfl, hn⟩ | ⟨g, cap, cur, rfl, _⟩
  · exact ⟨none, 0, by rw [hn]⟩
  · exact ⟨_, _, rfl⟩
theorem flat_get {css : List (List Value)} (h : ∀ cs ∈ css, cs.length = C) : ∀ j i, i < C → css.flatten[j * C + i]? = (css[j]?).bind (·[i]?) := by
  intro j
  induction css generalizing j with
  | nil => intro i _; simp
  | cons c css ih =>
    intro i hi
    have hc := h c (by simp)
    cases j with
    | zero =>
      rw [Nat.zero_mul, Nat.zero_add, List.flatten_cons, List.getElem?_append_left (by omega)]
      rfl
    | succ j =>
      rw [List.flatten_cons, List.getElem?_append_right (by rw [hc, Nat.succ_mul]; omega), hc, show (j + 1) * C + i - C = j * C + i by rw [Nat.succ_mul]; omega, ih (fun cs hcs => h cs (by simp [hcs])) j i hi]
      simp
theorem Acc.lon {w : World} {out : Value} {ls : List α} (hE : ElP El) (h : Acc T C El B w out ls) : LOn C El w (fun r => B ≤ r) out ls := by
  have hsl := h.slice
  obtain ⟨css, h1, h2, h3⟩ := h
  obtain ⟨A, c, e⟩ := hsl
  refine ⟨A, c, e, fun h0 => ?_⟩
  rcases h2.2 with ⟨_, hn⟩ | ⟨r, cap, cur, e2, hb, hgg, h4, h5, h6, h7⟩
  · omega
  · rw [e2] at e
    injection e with e3 e4 e5
    refine ⟨r, e3.symm, hb, (Array.getElem?_eq_some_iff.1 hgg).1, fun j hj => ?_⟩
    have hj' : j < css.length := by omega
    obtain ⟨k1, k2⟩ := h3 j hj hj'
    refine ⟨css[j], k1, hE.mono _ _ _ _ _ k2 (fun r _ hr => hr.1), fun i u hu => ?_⟩
    have hi : i < C := by have := (List.getElem?_eq_some_iff.1 hu).1; omega
    have hf := flat_get (C := C) (css := css) (fun cs hcs => by
      obtain ⟨q, hq, rfl⟩ := List.getElem_of_mem hcs
      exact (h3 q (by omega) hq).1) j i hi
    rw [List.getElem?_eq_getElem hj'] at hf
    simp only [Option.bind_some] at hf
    rw [hu, ← h7, List.getElem?_take] at hf
    split at hf
    · rw [Lib.cell_of_heap hgg]
      simpa using hf
    · cases hf
/-- one more -/
theorem Acc.app (hE : ElP El) {w w1 w' : World} {out out' : Value} {ls : List α} {x : α} {cs : List Value} {o : Obj} {css : List (List Value)} (h1 : css.length = ls.length) (h3 : ∀ j (h : j < ls.length) (h' : j < css.length), css[j].length = C ∧ El w1 (fun r => B ≤ r ∧ out.ownBlock ≠ some r) ls[j] css[j]) (hlt : ∀ r, out.ownBlock = some r → r < w.heap.size) (hB : B ≤ w.heap.size)
    (hx : El w1 (fun r => w.heap.size ≤ r) x cs) (hc : cs.length = C)
    (hown : w'.ownsRow B T C out' (ls.length + 1) (css.flatten ++ cs)) (hgr : (w1.alloc o).grownBy w' out.ownBlock) (hrow : out'.ownBlock = out.ownBlock ∨ ∃ r, out'.ownBlock = some r ∧ w1.heap.size + 1 ≤ r) : Acc T C El B w' out' (ls ++ [x]) := by
  have hsz1 : w1.heap.size + 1 = (w1.alloc o).heap.size := by simp
  have hkeep : ∀ r, r < w1.heap.size → out.ownBlock ≠ some r → w'.heap[r]? = w1.heap[r]? := fun r hr hne => (hgr.block r (by omega) (fun e => hne e.symm)).trans (heap_alloc_old w1 o hr)
  have hw' : w1.heap.size ≤ w'.heap.size := by have := hgr.size; omega
  have hnew : ∀ r, r < w1.heap.size → out.ownBlock ≠ some r → out'.ownBlock ≠ some r := fun r hr hne => by
    rcases hrow with e | ⟨q, e, hq⟩
    · rw [e]; exact hne
    · rw [e]; intro e2; have : q = r := by simpa using e2
      omega
  refine ⟨css ++ [cs], by simp [h1], by simpa using hown, fun j hj hj' => ?_⟩
  by_cases hjl : j < ls.length
  · have hjc : j < css.length := by omega
    rw [List.getElem_append_left hjl, List.getElem_append_left hjc]
    refine ⟨(h3 j hjl hjc).1, ?_⟩
    have a1 := hE.mono w1 _ (fun r => B ≤ r ∧ out.ownBlock ≠ some r ∧ out'.ownBlock ≠ some r) _ _ (h3 j hjl hjc).2 (fun r hr ⟨a1, a2⟩ => ⟨a1, a2, hnew r hr a2⟩)
    have a2 := hE.keep w1 w' _ _ _ a1 hw' (fun r hr hlt' => hkeep r hlt' hr.2.1)
    exact hE.mono _ _ _ _ _ a2 (fun r _ hr => ⟨hr.1, hr.2.2⟩)
  · obtain rfl : j = ls.length := by simp at hj; omega
    have e1 : (ls ++ [x])[ls.length]'hj = x := by simp
    have e2 : (css ++ [cs])[ls.length]'hj' = cs := by
      have : ls.length = css.length := h1.symm
      simp [this]
    rw [e1, e2]
    refine ⟨hc, ?_⟩
    have a1 := hE.mono w1 _ (fun r => B ≤ r ∧ out.ownBlock ≠ some r ∧ out'.ownBlock ≠ some r) _ _ hx (fun r hr ha => by
      have hne : out.ownBlock ≠ some r := fun e => by have := hlt r e; omega
      exact ⟨by omega, hne, hnew r hr hne⟩)
    have a2 := hE.keep w1 w' _ _ _ a1 hw' (fun r hr hlt' => hkeep r hlt' hr.2.1)
    exact hE.mono _ _ _ _ _ a2 (fun r _ hr => ⟨hr.1, hr.2.2⟩)
end
end Go.Proofs.YtpnmhldaaaemeaaGreat.Snp
/- Chapter 24: copies with a spare element behind: what they are, and how they are gathered. -/
namespace Go.Proofs.YtpnmhldaaaemeaaGreat.Snp
open Go.RowKit Go.Proofs.YtpnmhldaaaemeaaGreat.Pin
section
variable {α : Type} {T : TypeId} {C B : Nat} {El El' : World → (Nat → Prop) → α → List Value → Prop} {sp : List Value}
/-- elements, or the spare one -/
def ElO (El : World → (Nat → Prop) → α → List Value → Prop) (sp : List Value) (w : World) (ok : Nat → Prop) : Option α → List Value → Prop
  | some x, cs => El w ok x cs
  | none, cs => cs = sp
theorem elo (hE : ElP El) : ElP (ElO El sp) :=
  ⟨fun w w' ok x cs h hs hk => by
    cases x with
    | none => exact h
    | some x => exact hE.keep w w' ok x cs h hs hk, fun w ok ok' x cs h hk => by
    cases x with
    | none => exact h
    | some x => exact hE.mono w ok ok' x cs h hk⟩
/-- a twin: its list, and the spare element behind -/
def TwV (C : Nat) (El : World → (Nat → Prop) → α → List Value → Prop) (sp : List Value) (w : World) (ok : Nat → Prop) (v : Value) (l : List α) : Prop :=
  ∃ g, v = .slice (some ⟨g, 0, none⟩) l.length (l.length + 1) ∧ LOn C (ElO El sp) w ok (.slice (some ⟨g, 0, none⟩) (l.map some ++ [none]).length (l.length + 1)) (l.map some ++ [none])
theorem TwV.keep (hE : ElP El) {w w' : World} {ok : Nat → Prop} {v : Value} {l : List α} (h : TwV C El sp w ok v l) (hs : w.heap.size ≤ w'.heap.size) (hk : ∀ r, ok r → r < w.heap.size → w'.heap[r]? = w.heap[r]?) : TwV C El sp w' ok v l := by
  obtain ⟨g, e, h⟩ := h
  exact ⟨g, e, h.keep (elo hE) hs hk⟩
theorem TwV.mono (hE : ElP El) {w : World} {ok ok' : Nat → Prop} {v : Value} {l : List α} (h : TwV C El sp w ok v l) (hk : ∀ r, r < w.heap.size → ok r → ok' r) : TwV C El sp w ok' v l := by
  obtain ⟨g, e, h⟩ := h
  exact ⟨g, e, h.mono (elo hE) hk⟩
theorem TwV.cells {w : World} {ok : Nat → Prop} {v : Value} {l : List α} (h : TwV C El sp w ok v l) : ∃ g, v = .slice (some ⟨g, 0, none⟩) l.length (l.length + 1) ∧ ok g ∧ g < w.heap.size ∧
    (∀ j (h : j < l.length), ∃ cs, cs.length = C ∧ El w ok l[j] cs ∧ ∀ i u, cs[i]? = some u → w.cell? ⟨g, j * C + i, none⟩ = some u) ∧ sp.length = C ∧ ∀ i u, sp[i]? = some u → w.cell? ⟨g, l.length * C + i, none⟩ = some u := by
  obtain ⟨g, e, A, c, e2, h⟩ := h
  injection e2 with e3 e4 e5
  subst e3
  obtain ⟨r, e1, h1, h2, h3⟩ := h (by simp)
  obtain rfl : g = r := by
    have := Option.some.inj e1
    injection this
  refine ⟨g, e, h1, h2, fun j hj => ?_, ?_, ?_⟩
  · obtain ⟨cs, k1, k2, k3⟩ := h3 j (by simp; omega)
    rw [List.getElem_append_left (by simpa using hj), List.getElem_map] at k2
    exact ⟨cs, k1, k2, k3⟩
  all_goals
    obtain ⟨cs, k1, k2, k3⟩ := h3 l.length (by simp)
    rw [List.getElem_append_right (by simp)] at k2
    have k2 : cs = sp := by simpa [ElO] using k2
    subst k2
  · exact k1
  · exact k3
theorem TwV.lon {w : World} {ok : Nat → Prop} {v : Value} {l : List α} (h : TwV C El sp w ok v l) (hEl : ∀ x cs, El w ok x cs → El' w ok x cs) : LOn C El' w ok v l := by
  obtain ⟨g, e, h1, h2, h3, _, _⟩ := h.cells
  refine ⟨_, _, e, fun _ => ⟨g, rfl, h1, h2, fun j hj => ?_⟩⟩
  obtain ⟨cs, k1, k2, k3⟩ := h3 j hj
  exact ⟨cs, k1, hEl _ _ k2, k3⟩
/-- .. that is being made: so many of l stand in row g -/
def TwA (T : TypeId) (C : Nat) (El : World → (Nat → Prop) → α → List Value → Prop) (sp : List Value) (B : Nat) (w : World) (g k n : Nat) (l : List α) : Prop :=
  k ≤ n ∧ n = l.length ∧ Acc T C (ElO El sp) B w (.slice (some ⟨g, 0, none⟩) k (n + 1)) ((l.take k).map some)
theorem TwA.zero {w : World} {g n : Nat} {l : List α} (hn : n = l.length) (h : w.ownsRow B T C (.slice (some ⟨g, 0, none⟩) 0 (n + 1)) 0 []) : TwA T C El sp B w g 0 n l :=
  ⟨Nat.zero_le _, hn, [], rfl, h, fun j h => absurd h (by simp)⟩
theorem TwA.below (hE : ElP El) {w w' : World} {g k n : Nat} {l : List α} (h : TwA T C El sp B w g k n l) (hb : Below w.heap.size w w') : TwA T C El sp B w' g k n l := by
  obtain ⟨hk, hn, css, h1, h2, h3⟩ := h
  refine ⟨hk, hn, css, h1, ?_, fun j hj hj' => ⟨(h3 j hj hj').1, (elo hE).keep w w' _ _ _ (h3 j hj hj').2 hb.size (fun r _ hr => hb.block r hr)⟩⟩
  refine ⟨h2.1, ?_⟩
  rcases h2.2 with ⟨e, _⟩ | ⟨q, cap, cur, e, a1, a2, a3⟩
  · cases e
  · exact .inr ⟨q, cap, cur, e, a1, (hb.block q (Array.getElem?_eq_some_iff.1 a2).1).trans a2, a3⟩
theorem TwA.lt {w : World} {g k n : Nat} {l : List α} (h : TwA T C El sp B w g k n l) : B ≤ g ∧ g < w.heap.size := by
  obtain ⟨_, _, css, _, h2, _⟩ := h
  exact h2.lt g rfl
theorem TwA.next (hE : ElP El) {w1 : World} {g k n : Nat} {l : List α} (h : TwA T C El sp B w1 g k n l) : ∃ xs, w1.ownsRow B T C (.slice (some ⟨g, 0, none⟩) k (n + 1)) k xs ∧
    (∀ (w w' : World) (o : Obj) (hk : k < l.length) (cs : List Value), B ≤ w.heap.size → g < w.heap.size → El w1 (fun r => w.heap.size ≤ r) l[k] cs → cs.length = C → w'.ownsRow B T C (.slice (some ⟨g, 0, none⟩) (k + 1) (n + 1)) (k + 1) (xs ++ cs) →
      (w1.alloc o).grownBy w' (some g) → TwA T C El sp B w' g (k + 1) n l) ∧
    (∀ (w' : World) (o : Obj), k = n → sp.length = C → w'.ownsRow B T C (.slice (some ⟨g, 0, none⟩) (k + 1) (n + 1)) (k + 1) (xs ++ sp) →
      (w1.alloc o).grownBy w' (some g) → TwV C El sp w' (fun r => B ≤ r) (.slice (some ⟨g, 0, none⟩) n (n + 1)) l) := by
  have hlt := h.lt
  obtain ⟨hk, hn, css, h1, h2, h3⟩ := h
  have hlen : ((l.take k).map some).length = k := by simp; omega
  have h2' : w1.ownsRow B T C (.slice (some ⟨g, 0, none⟩) k (n + 1)) k css.flatten := by rw [hlen] at h2; exact h2
  refine ⟨css.flatten, h2', fun w w' o hkl cs hB hg hx hc hown hgr => ?_, fun w' o hkl hc hown hgr => ?_⟩
  · refine ⟨by omega, hn, ?_⟩
    have e : (l.take (k + 1)).map some = (l.take k).map some ++ [some l[k]] := by rw [List.take_succ_eq_append_getElem hkl, List.map_append]; rfl
    rw [e]
    exact Acc.app (elo hE) (w := w) (x := some l[k]) h1 h3 (fun r hr => by have : g = r := Option.some.inj hr; omega) hB hx hc (by rw [hlen]; exact hown) hgr (.inl rfl)
  · have ha := Acc.app (elo (sp := sp) hE) (w := w1) (x := none) (out' := .slice (some ⟨g, 0, none⟩) (k + 1) (n + 1)) h1 h3 (fun r hr => by have : g = r := Option.some.inj hr; omega) (by omega) (cs := sp) rfl hc (by rw [hlen]; exact hown) hgr (.inl rfl)
    have hl := ha.lon (elo hE)
    have e : l.take k = l := by rw [hkl, hn]; exact List.take_length
    rw [e] at hl
    subst hn
    refine ⟨g, rfl, ?_⟩
    have : (l.map some ++ [none]).length = k + 1 := by simp [hkl]
    rw [this]
    exact hl
end
theorem new_cells (w : World) (cs : List Value) (T : TypeId) : ∀ j u, cs[j]? = some u → (w.alloc (.cells cs.toArray T)).cell? ((⟨w.heap.size, 0, none⟩ : Addr).add j) = some u := by
  intro j u hu
  have hadd : (⟨w.heap.size, 0, none⟩ : Addr).add j = ⟨w.heap.size, j, none⟩ := by unfold Addr.add; split <;> simp_all
  rw [hadd, Lib.cell_of_heap (heap_alloc_new w _)]
  simpa using hu
end Go.Proofs.YtpnmhldaaaemeaaGreat.Snp
/- Chapter 24: copies with a spare element behind. Printed by gen_twin24.py. -/
namespace Go.Proofs.YtpnmhldaaaemeaaGreat.Snp
open Go.RowKit Go.Proofs.YtpnmhldaaaemeaaGreat.Pin

theorem winfo_texts : (Tryz.prog.info? 9).map (fun i => (i.zero, i.size, i.bytes)) = some (some (.string ⟨#[]⟩), 1, 16) := by kernel_rfl
abbrev sp_texts : List Value := [.string ⟨#[115, 112, 97, 114, 101]⟩]
abbrev Tw_texts (w : World) (ok : Nat → Prop) (v : Value) (l : List ByteArray) : Prop := TwV 1 (Flat fun s : ByteArray => [Value.string s]) sp_texts w ok v l
set_option maxHeartbeats 2000000 in
set_option maxRecDepth 100000 in
theorem twin_texts (l : List ByteArray) (v : Value) (w : World) (hT : TextsAt w w.heap.size v l) (hl : l.length ≤ 1048576) :
    Calls Tryz.prog 80 #[v] w fun e w' => (∃ u, e = .returned u ∧ Tw_texts w' (fun r => w.heap.size ≤ r) u l) ∧ Below w.heap.size w w' := by
  obtain ⟨A, c, rfl, hT⟩ := hT
  obtain ⟨n, hn⟩ : ∃ n, n = l.length := ⟨_, rfl⟩
  rw [← hn] at hl ⊢
  have HN := Lib.hid hn
  have HT := Lib.hid hT
  obtain ⟨i0, hi, hz0, hz1, hz2⟩ := info_parts winfo_texts
  have HI := Lib.hid hi
  have HZ0 := Lib.hid hz0
  have HZ1 := Lib.hid hz1
  have HZ2 := Lib.hid hz2
  clear hi hz0 hz1 hz2 hn hT
  go_enter Tryz.func80, Tryz.ntmps80
  go_wp2_with (at_make; refine wpList_make_own _ rfl _ _ 34 rfl w.heap.size 9 i0 (.string ⟨#[]⟩) 1 Tryz.underlying34 HI.out HZ0.out HZ1.out .i64 .i64 _ (n + 1) rfl rfl ?c1 ?c2 ?c3 ?c4 ?_)
  case c1 => omega
  case c2 => rw [HZ2.out]; omega
  case c3 => unfold maxLen; omega
  case c4 => exact Nat.le_refl _
  intro w1 hown1 hgrow1
  obtain ⟨g, hg⟩ : ∃ g, g = w.heap.size := ⟨_, rfl⟩
  rw [← hg] at hown1 ⊢
  have HO1 : Hid (TwA 9 1 (Flat fun s : ByteArray => [Value.string s]) sp_texts w.heap.size w1 g 0 n l) := Lib.hid (TwA.zero HN.out (by rw [← hg]; exact hown1))
  have HB1 : Hid (Below w.heap.size w w1) := Lib.hid ((Below.refl _ w).grown hgrow1 (Nat.le_refl _) (fun b e => by cases e))
  have HG := Lib.hid hg
  clear hown1 hgrow1 hg
  go_wp2_with fail
  go_loopw [3, 4] (fun v i wr => ∃ (k : Nat), k ≤ n ∧ i = .int .i64 k ∧ v = .slice (some ⟨g, 0, none⟩) k (n + 1) ∧ Hid (TwA 9 1 (Flat fun s : ByteArray => [Value.string s]) sp_texts w.heap.size wr g k n l) ∧ Hid (Below w.heap.size w wr)) (fun _ i _ => n - (intOf i).toNat)
  case atStart => exact ⟨0, by omega, rfl, rfl, HO1, HB1⟩
  case round =>
    obtain ⟨k, hk, rfl, rfl, HO, HW⟩ := hrel
    clear HO1 HB1
    by_cases hlt : (k : Int) < (n : Int)
    · have hkl : k < l.length := by have := HN.out; omega
      obtain ⟨r, o, rfl, hr, hc⟩ := HT.out (by omega)
      obtain ⟨x, hx⟩ : ∃ x, x = l[k] := ⟨_, rfl⟩
      have HX := Lib.hid hx
      have hck := hc k hkl
      rw [← hx] at hck
      have x1 : wr.cell? ⟨r, o + k, none⟩ = some (.string x) := (HW.out.cell (p := ⟨r, _, none⟩) hr).trans hck
      clear hx hc hck
      obtain ⟨xs, hown, hnext, -⟩ := HO.out.next (flat_el _)
      have HC := Lib.hid (hown.alloc (.cells #[.string x] 9))
      have HNX := Lib.hid hnext
      clear hown hnext
      go_wp2_with (at_builtin; refine wpList_append_fits _ rfl _ _ 34 rfl w.heap.size 9 i0 1 Tryz.underlying34 HI.out HZ1.out g k (n + 1) xs rfl HC.out ⟨wr.heap.size, 0, none⟩ 1 1 [.string x] rfl rfl ?c1 ?c2 ?c3 ?_)
      case c1 => exact new_cells wr [.string x] 9
      case c2 => simp [Value.oneCell']
      case c3 => omega
      intro w3 hown3 hgr3
      have HO3 : Hid (TwA 9 1 (Flat fun s : ByteArray => [Value.string s]) sp_texts w.heap.size w3 g (k + 1) n l) := Lib.hid (HNX.out wr w3 _ hkl [.string x] HW.out.size HO.out.lt.2 (by rw [← HX.out]; rfl) rfl hown3 hgr3)
      have HW3 : Hid (Below w.heap.size w w3) := Lib.hid ((HW.out.alloc HW.out.size _).grown hgr3 (by have := HW.out.size; simp; omega) (fun b e => by have := HO.out.lt.1; cases e; exact this))
      clear hown3 hgr3
      go_wp2_with fail
      exact ⟨⟨k + 1, by omega, by go_num, by go_num, HO3, HW3⟩, by simp [intOf]; omega⟩
    · have hkn : k = n := by omega
      obtain ⟨xs, hown, -, hend⟩ := HO.out.next (flat_el _)
      have HC := Lib.hid (hown.alloc (.cells #[.string ⟨#[115, 112, 97, 114, 101]⟩] 9))
      have HND := Lib.hid hend
      have HK := Lib.hid hkn
      clear hown hend
      go_wp2_with (at_builtin; refine wpList_append_fits _ rfl _ _ 34 rfl w.heap.size 9 i0 1 Tryz.underlying34 HI.out HZ1.out g k (n + 1) xs rfl HC.out ⟨wr.heap.size, 0, none⟩ 1 1 [.string ⟨#[115, 112, 97, 114, 101]⟩] rfl rfl ?d1 ?d2 ?d3 ?_)
      case d2 => simp [Value.oneCell']
      intro w3 hown3 hgr3
      have HV : Hid (Tw_texts w3 (fun r => w.heap.size ≤ r) (.slice (some ⟨g, 0, none⟩) n (n + 1)) l) := Lib.hid (HND.out w3 _ HK.out rfl (by rw [HK.out]; exact hown3) hgr3)
      have HW3 : Hid (Below w.heap.size w w3) := Lib.hid ((HW.out.alloc HW.out.size _).grown hgr3 (by have := HW.out.size; simp; omega) (fun b e => by have := HO.out.lt.1; cases e; exact this))
      clear hown3 hgr3
      go_wp2_with fail
      go_ret
      exact ⟨⟨_, rfl, HV.out⟩, HW3.out⟩

theorem winfo_pairs : (Tryz.prog.info? 78).map (fun i => (i.zero, i.size, i.bytes)) = some (some (.agg #[.string ⟨#[]⟩, .string ⟨#[]⟩]), 2, 32) := by kernel_rfl
abbrev sp_pairs : List Value := [.string ⟨#[115, 112, 97, 114, 101]⟩, .string ⟨#[]⟩]
abbrev Tw_pairs (w : World) (ok : Nat → Prop) (v : Value) (l : List Pr) : Prop := TwV 2 (Flat fun p : Pr => [Value.string p.1, .string p.2]) sp_pairs w ok v l
set_option maxHeartbeats 2000000 in
set_option maxRecDepth 100000 in
theorem twin_pairs (l : List Pr) (v : Value) (w : World) (hT : PairsAt w w.heap.size v l) (hl : l.length ≤ 1048576) :
    Calls Tryz.prog 81 #[v] w fun e w' => (∃ u, e = .returned u ∧ Tw_pairs w' (fun r => w.heap.size ≤ r) u l) ∧ Below w.heap.size w w' := by
  obtain ⟨A, c, rfl, hT⟩ := hT
  obtain ⟨n, hn⟩ : ∃ n, n = l.length := ⟨_, rfl⟩
  rw [← hn] at hl ⊢
  have HN := Lib.hid hn
  have HT := Lib.hid hT
  obtain ⟨i0, hi, hz0, hz1, hz2⟩ := info_parts winfo_pairs
  have HI := Lib.hid hi
  have HZ0 := Lib.hid hz0
  have HZ1 := Lib.hid hz1
  have HZ2 := Lib.hid hz2
  clear hi hz0 hz1 hz2 hn hT
  go_enter Tryz.func81, Tryz.ntmps81
  go_wp2_with (at_make; refine wpList_make_own _ rfl _ _ 35 rfl w.heap.size 78 i0 (.agg #[.string ⟨#[]⟩, .string ⟨#[]⟩]) 2 Tryz.underlying35 HI.out HZ0.out HZ1.out .i64 .i64 _ (n + 1) rfl rfl ?c1 ?c2 ?c3 ?c4 ?_)
  case c1 => omega
  case c2 => rw [HZ2.out]; omega
  case c3 => unfold maxLen; omega
  case c4 => exact Nat.le_refl _
  intro w1 hown1 hgrow1
  obtain ⟨g, hg⟩ : ∃ g, g = w.heap.size := ⟨_, rfl⟩
  rw [← hg] at hown1 ⊢
  have HO1 : Hid (TwA 78 2 (Flat fun p : Pr => [Value.string p.1, .string p.2]) sp_pairs w.heap.size w1 g 0 n l) := Lib.hid (TwA.zero HN.out (by rw [← hg]; exact hown1))
  have HB1 : Hid (Below w.heap.size w w1) := Lib.hid ((Below.refl _ w).grown hgrow1 (Nat.le_refl _) (fun b e => by cases e))
  have HG := Lib.hid hg
  clear hown1 hgrow1 hg
  go_wp2_with fail
  go_loopw [3, 4] (fun v i wr => ∃ (k : Nat), k ≤ n ∧ i = .int .i64 k ∧ v = .slice (some ⟨g, 0, none⟩) k (n + 1) ∧ Hid (TwA 78 2 (Flat fun p : Pr => [Value.string p.1, .string p.2]) sp_pairs w.heap.size wr g k n l) ∧ Hid (Below w.heap.size w wr)) (fun _ i _ => n - (intOf i).toNat)
  case atStart => exact ⟨0, by omega, rfl, rfl, HO1, HB1⟩
  case round =>
    obtain ⟨k, hk, rfl, rfl, HO, HW⟩ := hrel
    clear HO1 HB1
    by_cases hlt : (k : Int) < (n : Int)
    · have hkl : k < l.length := by have := HN.out; omega
      obtain ⟨r, o, rfl, hr, hc⟩ := HT.out (by omega)
      obtain ⟨x, hx⟩ : ∃ x, x = l[k] := ⟨_, rfl⟩
      have HX := Lib.hid hx
      have hck := hc k hkl
      rw [← hx] at hck
      have x1 : wr.cell? ⟨r, o + k * 2, none⟩ = some (.string x.1) := (HW.out.cell (p := ⟨r, _, none⟩) hr).trans hck.1
      have x2 : wr.cell? ⟨r, o + k * 2 + 1, none⟩ = some (.string x.2) := (HW.out.cell (p := ⟨r, _, none⟩) hr).trans hck.2
      clear hx hc hck
      obtain ⟨xs, hown, hnext, -⟩ := HO.out.next (flat_el _)
      have HC := Lib.hid (hown.alloc (.cells #[.string x.1, .string x.2] 78))
      have HNX := Lib.hid hnext
      clear hown hnext
      go_wp2_with (at_builtin; refine wpList_append_fits _ rfl _ _ 35 rfl w.heap.size 78 i0 2 Tryz.underlying35 HI.out HZ1.out g k (n + 1) xs rfl HC.out ⟨wr.heap.size, 0, none⟩ 1 1 [.string x.1, .string x.2] rfl rfl ?c1 ?c2 ?c3 ?_)
      case c1 => exact new_cells wr [.string x.1, .string x.2] 78
      case c2 => simp [Value.oneCell']
      case c3 => omega
      intro w3 hown3 hgr3
      have HO3 : Hid (TwA 78 2 (Flat fun p : Pr => [Value.string p.1, .string p.2]) sp_pairs w.heap.size w3 g (k + 1) n l) := Lib.hid (HNX.out wr w3 _ hkl [.string x.1, .string x.2] HW.out.size HO.out.lt.2 (by rw [← HX.out]; rfl) rfl hown3 hgr3)
      have HW3 : Hid (Below w.heap.size w w3) := Lib.hid ((HW.out.alloc HW.out.size _).grown hgr3 (by have := HW.out.size; simp; omega) (fun b e => by have := HO.out.lt.1; cases e; exact this))
      clear hown3 hgr3
      go_wp2_with fail
      exact ⟨⟨k + 1, by omega, by go_num, by go_num, HO3, HW3⟩, by simp [intOf]; omega⟩
    · have hkn : k = n := by omega
      obtain ⟨xs, hown, -, hend⟩ := HO.out.next (flat_el _)
      have HC := Lib.hid (hown.alloc (.cells #[.string ⟨#[115, 112, 97, 114, 101]⟩, .string ⟨#[]⟩] 78))
      have HND := Lib.hid hend
      have HK := Lib.hid hkn
      clear hown hend
      go_wp2_with (at_builtin; refine wpList_append_fits _ rfl _ _ 35 rfl w.heap.size 78 i0 2 Tryz.underlying35 HI.out HZ1.out g k (n + 1) xs rfl HC.out ⟨wr.heap.size, 0, none⟩ 1 1 [.string ⟨#[115, 112, 97, 114, 101]⟩, .string ⟨#[]⟩] rfl rfl ?d1 ?d2 ?d3 ?_)
      case d2 => simp [Value.oneCell']
      intro w3 hown3 hgr3
      have HV : Hid (Tw_pairs w3 (fun r => w.heap.size ≤ r) (.slice (some ⟨g, 0, none⟩) n (n + 1)) l) := Lib.hid (HND.out w3 _ HK.out rfl (by rw [HK.out]; exact hown3) hgr3)
      have HW3 : Hid (Below w.heap.size w w3) := Lib.hid ((HW.out.alloc HW.out.size _).grown hgr3 (by have := HW.out.size; simp; omega) (fun b e => by have := HO.out.lt.1; cases e; exact this))
      clear hown3 hgr3
      go_wp2_with fail
      go_ret
      exact ⟨⟨_, rfl, HV.out⟩, HW3.out⟩

end Go.Proofs.YtpnmhldaaaemeaaGreat.Snp
/- A region that draws its order, whose operations only ever add to the world (a relation R on worlds that is kept: "what was there stays"): each operation is shown once, in whatever world and beside whatever else has been carried out, from what holds of the values it stands on. No order is walked. Over any program. -/
namespace Go.Proofs.YtpnmhldaaaemeaaGreat.Grow
open Go Go.Proofs.YtpnmhldaaaemeaaGreat.Pin
section
variable {P : Program} {R : World → World → Prop} {ops : Array Oper}

def gAt (P : Program) (R : World → World → Prop) (V : Value → World → Prop) (w : World) : Result Next → Prop
  | .ok (.value v) w' => R w w' ∧ V v w'
  | .ok .skip w' => R w w' ∧ V undef w'
  | .ok (.enter f args) w' => Calls P f args w' (fun e w'' => ∃ v, e = .returned v ∧ R w w'' ∧ V v w'')
  | _ => False
def gOp (P : Program) (R : World → World → Prop) (ops : Array Oper) (o : Oper) (a : Act) (V : Value → World → Prop) (w : World) : Prop :=
  if Region.wanted o (yielded ops a.tmps) then gAt P R V w ((execOp a.eval o).run P w) else V undef w
def dstOf (ops : Array Oper) (k : Nat) : Option Tmp := (ops[k]?).bind (·.dst)
def actL (ops : Array Oper) (u : Nat → Value) : List Nat → Act → Act
  | [], b => b
  | k :: ks, a => actL ops u ks (a.put (dstOf ops k) (u k))
theorem actL_append (u : Nat → Value) : ∀ (ks ks' : List Nat) (a : Act), actL ops u (ks ++ ks') a = actL ops u ks' (actL ops u ks a)
  | [], _, _ => rfl
  | _ :: ks, ks', _ => actL_append u ks ks' _
def apartB (ops : Array Oper) : Bool := (List.range ops.size).all fun i => (List.range ops.size).all fun j => i == j || dstOf ops i == none || dstOf ops i != dstOf ops j
def Dsts (ops : Array Oper) : Prop := ∀ i j, i ≠ j → ∀ d, dstOf ops i = some d → dstOf ops j ≠ some d
theorem dstOf_lt {i : Nat} {d : Tmp} (h : dstOf ops i = some d) : i < ops.size := by
  unfold dstOf at h
  by_cases hi : i < ops.size
  · exact hi
  · rw [Array.getElem?_eq_none (by omega)] at h; cases h
theorem apartB_spec (h : apartB ops = true) : Dsts ops := by
  intro i j hne d hi hj
  have h1 := List.all_eq_true.1 (List.all_eq_true.1 h i (List.mem_range.2 (dstOf_lt hi))) j (List.mem_range.2 (dstOf_lt hj))
  rw [hi, hj] at h1
  simp [hne] at h1
theorem actL_perm (hd : Dsts ops) (u : Nat → Value) {ks ks' : List Nat} (h : ks.Perm ks') : ∀ a, actL ops u ks a = actL ops u ks' a := by
  induction h with
  | nil => intro a; rfl
  | cons k _ ih => intro a; exact ih _
  | swap x y l =>
    intro a
    by_cases hxy : x = y
    · subst hxy; rfl
    · show actL ops u l _ = actL ops u l _
      rw [Act.put_comm a _ _ (fun d hy hx => hd y x (Ne.symm hxy) d hy hx)]
  | trans _ _ ih1 ih2 => intro a; rw [ih1, ih2]
theorem actL_congr {u u' : Nat → Value} : ∀ (ks : List Nat) (a : Act), (∀ k ∈ ks, u k = u' k) → actL ops u ks a = actL ops u' ks a
  | [], _, _ => rfl
  | k :: ks, a, h => by
    show actL ops u ks _ = actL ops u' ks _
    rw [h k (by simp)]
    exact actL_congr ks _ fun k' hk' => h k' (by simp [hk'])
/-- what an operation does not look at makes no difference to it -/
theorem rest_same (o : Oper) (hs : ∀ cs b, o.op ≠ .select cs b) (u : Nat → Value) : ∀ (ks : List Nat) (a : Act), (∀ k ∈ ks, ∀ d, dstOf ops k = some d → d ∉ o.looksAt ops) →
    execOp (actL ops u ks a).eval o = execOp a.eval o ∧ Region.wanted o (yielded ops (actL ops u ks a).tmps) = Region.wanted o (yielded ops a.tmps)
  | [], _, _ => ⟨rfl, rfl⟩
  | k :: ks, a, h => by
    obtain ⟨h1, h2⟩ := rest_same o hs u ks (a.put (dstOf ops k) (u k)) (fun k' hk' => h k' (by simp [hk']))
    exact ⟨h1.trans (execOp_put o hs a _ _ (h k (by simp))), h2.trans (wanted_put o a _ _ (h k (by simp)))⟩
/-- may operation i be shown from the operations of d alone? -/
def growAt (ops : Array Oper) (i : Nat) (d : List Nat) : Bool :=
  match ops[i]? with
  | none => false
  | some o => decide d.Nodup && d.all (fun k => decide (k < ops.size) && (aftL ops k ops.size).contains i) && o.after.all (fun e => !Region.binds .any e || decide (e.on < i)) &&
    (List.range ops.size).all fun k => d.contains k || match dstOf ops k with | some t => !(o.looksAt ops).contains t | none => true
def growB (ops : Array Oper) (D : List (List Nat)) : Bool :=
  Region.noSelect ops && apartB ops && (List.range ops.size).all fun i => growAt ops i (D.getD i [])

/-- carried out: the operations ks, each once, with the values u -/
structure Done (R : World → World → Prop) (ops : Array Oper) (V : Nat → Value → World → Prop) (a0 : Act) (W : World) (u : Nat → Value) (ks : List Nat) (listed : Array Bool) (a : Act) (w : World) : Prop where
  nodup : ks.Nodup
  size : listed.size = ops.size
  mem : ∀ k, k ∈ ks ↔ listed.getD k false = true
  act : a = actL ops u ks a0
  rel : R W w
  fact : ∀ k ∈ ks, V k (u k) w
theorem gAt_wp {o : Oper} {a : Act} {w : World} {V : Value → World → Prop} {K : Act → World → Prop} {Q : Exit → Act → World → Prop}
    (h : gAt P R V w ((execOp a.eval o).run P w)) (hK : ∀ v w', R w w' → V v w' → K (a.put o.dst v) w') : o.wp P a w K Q := by
  unfold Oper.wp
  generalize (execOp a.eval o).run P w = r at *
  cases r with
  | ok n w' =>
    cases n <;> simp only [gAt] at h <;> simp only [Oper.upon]
    case value v => exact hK _ _ h.1 h.2
    case skip => exact hK _ _ h.1 h.2
    case enter f args => exact h.mono fun e w'' ⟨v, he, h1, h2⟩ => by subst he; exact hK _ _ h1 h2
  | halt x w' => simp only [gAt] at h
theorem listed_lt {listed : Array Bool} {k : Nat} (h : listed.getD k false = true) : k < listed.size := by
  by_cases hk : k < listed.size
  · exact hk
  · simp [Array.getElem?_eq_none (Nat.le_of_not_lt hk)] at h
theorem getD_set_self {listed : Array Bool} {i : Nat} (h : i < listed.size) (b : Bool) : (listed.setIfInBounds i true).getD i b = true := by simp [h]
theorem nodup_le : ∀ (ks l : List Nat), ks.Nodup → (∀ k ∈ ks, k ∈ l) → ks.length ≤ l.length
  | [], _, _, _ => by simp
  | k :: ks, l, hn, hs => by
    have hk : k ∈ l := hs k (by simp)
    have h1 := nodup_le ks (l.erase k) (List.nodup_cons.1 hn).2 (fun j hj => (List.mem_erase_of_ne (fun h => by subst h; exact (List.nodup_cons.1 hn).1 hj)).2 (hs j (by simp [hj])))
    have h2 := List.length_erase_of_mem hk
    have h3 := List.length_pos_of_mem hk
    simp only [List.length_cons]
    omega
theorem nodup_full {ks : List Nat} {n : Nat} (hn : ks.Nodup) (hs : ∀ k ∈ ks, k < n) (hl : ks.length = n) : ks.Perm (List.range n) := by
  refine (List.perm_ext_iff_of_nodup hn List.nodup_range).2 fun k => ⟨fun h => List.mem_range.2 (hs k h), fun h => ?_⟩
  refine Classical.byContradiction fun hk => ?_
  have := nodup_le (k :: ks) (List.range n) (List.nodup_cons.2 ⟨hk, hn⟩) (fun j hj => by
    rcases List.mem_cons.1 hj with rfl | hj
    · exact h
    · exact List.mem_range.2 (hs j hj))
  simp at this
  omega
theorem grow_stuck {listed : Array Bool} (hf : ∀ i o, ops[i]? = some o → ∀ e ∈ o.after, Region.binds .any e = true → e.on < i) (h0 : Region.ready .any ops listed = []) (hs : listed.size = ops.size) :
    ∀ n k, k < n → k < ops.size → listed.getD k false = true
  | 0, _, h, _ => by omega
  | n + 1, k, h, hk => by
    rcases Nat.lt_or_ge k n with h' | h'
    · exact grow_stuck hf h0 hs n k h' hk
    · obtain rfl : k = n := by omega
      cases hx : listed.getD k false with
      | true => rfl
      | false =>
        exfalso
        obtain ⟨o, ho⟩ : ∃ o, ops[k]? = some o := ⟨_, Array.getElem?_eq_getElem hk⟩
        have : k ∈ Region.ready .any ops listed := mem_ready.2 ⟨by simp [hs, hk] at hx ⊢; exact hx, o, ho, fun e he hb => grow_stuck hf h0 hs k e.on (hf k o ho e he hb) (by have := hf k o ho e he hb; omega)⟩
        rw [h0] at this
        cases this
theorem grow_any (hsel : Region.noSelect ops = true) (hd : Dsts ops) (hrt : ∀ a b c, R a b → R b c → R a c) (hrr : ∀ a, R a a) {V : Nat → Value → World → Prop} (hst : ∀ i v w w', V i v w → R w w' → V i v w')
    {D : List (List Nat)} (hD : ∀ i < ops.size, growAt ops i (D.getD i []) = true) {a0 : Act} {W : World}
    (hop : ∀ i o, ops[i]? = some o → ∀ u w, R W w → (∀ k ∈ D.getD i [], V k (u k) w) → gOp P R ops o (actL ops u (D.getD i []) a0) (V i) w)
    {Q : Exit → Act → World → Prop} (hQ : ∀ u w, R W w → (∀ k < ops.size, V k (u k) w) → Q .normal (actL ops u (List.range ops.size) a0) w) :
    ∀ (fuel : Nat) (u : Nat → Value) (ks : List Nat) (listed : Array Bool) (a : Act) (w : World), ks.length + fuel = ops.size → Closed ops listed → Done R ops V a0 W u ks listed a w → wpAny P .any ops Q fuel listed a w := by
  have fin : ∀ (u : Nat → Value) (ks : List Nat) (listed : Array Bool) (a : Act) (w : World), Done R ops V a0 W u ks listed a w → ks.length = ops.size → Q .normal a w := by
    intro u ks listed a w hdn hl
    have hp : ks.Perm (List.range ops.size) := nodup_full hdn.nodup (fun k hk => by have := listed_lt ((hdn.mem k).1 hk); rw [hdn.size] at this; exact this) hl
    rw [hdn.act, actL_perm hd u hp]
    exact hQ u w hdn.rel fun k hk => hdn.fact k (hp.mem_iff.2 (List.mem_range.2 hk))
  have ops_done : ∀ (ks : List Nat) (listed : Array Bool), (∀ k, k ∈ ks ↔ listed.getD k false = true) → listed.size = ops.size → ks.Nodup → ks.length = ops.size → Region.ready .any ops listed = [] := by
    intro ks listed hm hsz hnd hl
    have hp : ks.Perm (List.range ops.size) := nodup_full hnd (fun k hk => by have := listed_lt ((hm k).1 hk); rw [hsz] at this; exact this) hl
    refine List.eq_nil_iff_forall_not_mem.2 fun i hi => ?_
    obtain ⟨h0, o, ho, _⟩ := mem_ready.1 hi
    have hlt : i < ops.size := (Array.getElem?_eq_some_iff.1 ho).1
    have := (hm i).1 (hp.mem_iff.2 (List.mem_range.2 hlt))
    exact getD_both h0 this
  intro fuel
  induction fuel with
  | zero =>
    intro u ks listed a w hl hc hdn
    exact ⟨ops_done ks listed hdn.mem hdn.size hdn.nodup (by omega), fin u ks listed a w hdn (by omega)⟩
  | succ fuel ih =>
    intro u ks listed a w hl hc hdn
    refine ⟨fun h0 => ?_, fun i hi => ?_⟩
    · -- nothing may come up, so all is done
      exfalso
      -- the least operation that is not listed is ready
      have : ∃ k, k < ops.size ∧ k ∉ ks := by
        apply Classical.byContradiction
        intro hno
        have hall : ∀ k ∈ List.range ops.size, k ∈ ks := fun k hk => Classical.byContradiction fun h => hno ⟨k, List.mem_range.1 hk, h⟩
        have := nodup_le _ _ List.nodup_range hall
        simp at this
        omega
      obtain ⟨k, hk, hkn⟩ := this
      refine hkn ((hdn.mem k).2 (grow_stuck (fun i o ho e he hb => ?_) h0 hdn.size (k + 1) k (by omega) hk))
      have hlt : i < ops.size := (Array.getElem?_eq_some_iff.1 ho).1
      have hg := hD i hlt
      unfold growAt at hg
      simp only [ho, Bool.and_eq_true] at hg
      have h3 := Array.all_eq_true_iff_forall_mem.1 hg.1.2 e he
      rw [hb] at h3
      simpa using h3
    · obtain ⟨h0, o, ho, hall⟩ := mem_ready.1 hi
      have hlt : i < ops.size := (Array.getElem?_eq_some_iff.1 ho).1
      have hg := hD i hlt
      unfold growAt at hg
      simp only [ho, Bool.and_eq_true, decide_eq_true_eq, List.all_eq_true, List.mem_range, Bool.or_eq_true, List.contains_iff_mem] at hg
      obtain ⟨⟨⟨hnd, hbeh⟩, -⟩, hfar⟩ := hg
      have hin : i ∉ ks := fun h => getD_both h0 ((hdn.mem i).1 h)
      have hDks : ∀ k ∈ D.getD i [], k ∈ ks := fun k hk => by
        have haft : Aft ops k i := aftL_spec k _ i (hbeh k hk).2
        refine (hdn.mem k).2 ?_
        cases hx : listed.getD k false with
        | true => rfl
        | false =>
          exfalso
          have hk' : listed.getD k true = false := by
            have hlt' : k < listed.size := by
              rw [hdn.size]
              exact (hbeh k hk).1
            simp [hlt'] at hx ⊢
            exact hx
          exact Aft.not_ready hc hk' hi haft
      -- the frame as the operation sees it
      have hperm : ks.Perm (D.getD i [] ++ ks.filter (fun k => !(D.getD i []).contains k)) := by
        have h1 : ks.Perm (ks.filter (fun k => (D.getD i []).contains k) ++ ks.filter (fun k => !(D.getD i []).contains k)) := (List.filter_append_perm _ ks).symm
        refine h1.trans (List.Perm.append_right _ ?_)
        refine (List.perm_ext_iff_of_nodup (hdn.nodup.filter _) hnd).2 fun k => ?_
        simp only [List.mem_filter, List.contains_iff_mem]
        exact ⟨fun h => h.2, fun h => ⟨hDks k h, h⟩⟩
      have hact : a = actL ops u (ks.filter (fun k => !(D.getD i []).contains k)) (actL ops u (D.getD i []) a0) := by
        rw [hdn.act, actL_perm hd u hperm, actL_append]
      have hsame := rest_same (ops := ops) o (fun cs b => Region.noSelect_spec hsel i o cs b ho) u (ks.filter (fun k => !(D.getD i []).contains k)) (actL ops u (D.getD i []) a0) (fun k hk d hkd => by
        have hk' := (List.mem_filter.1 hk).2
        rcases hfar k (dstOf_lt hkd) with h | h
        · exfalso; rw [List.contains_iff_mem.2 h] at hk'; cases hk'
        · rw [hkd] at h; simpa using h)
      rw [← hact] at hsame
      have hfacts : ∀ k ∈ D.getD i [], V k (u k) w := fun k hk => hdn.fact k (hDks k hk)
      have hthis := hop i o ho u w hdn.rel hfacts
      unfold gOp at hthis
      rw [← hsame.1, ← hsame.2] at hthis
      have next : ∀ v w', R w w' → V i v w' → wpAny P .any ops Q fuel (listed.setIfInBounds i true) (a.put o.dst v) w' := fun v w' hr hv => by
        have hdst : dstOf ops i = o.dst := by unfold dstOf; rw [ho]; rfl
        refine ih (fun k => if k = i then v else u k) (ks ++ [i]) _ _ w' (by simp; omega) (hc.set hi) ⟨?_, by simp [hdn.size], fun k => ?_, ?_, hrt _ _ _ hdn.rel hr, fun k hk => ?_⟩
        · refine List.nodup_append.2 ⟨hdn.nodup, by simp, fun x hx y hy => ?_⟩
          obtain rfl : y = i := by simpa using hy
          intro hxy
          subst hxy
          exact hin hx
        · by_cases hki : k = i
          · subst hki
            simp [hdn.size, hlt]
          · rw [getD_set_ne false (Ne.symm hki)]
            simp only [List.mem_append, List.mem_singleton, hki, or_false]
            exact hdn.mem k
        · rw [actL_append, actL_congr ks a0 (u' := u) (fun k hk => by
            have : k ≠ i := fun h => hin (h ▸ hk)
            simp [this]), ← hdn.act]
          simp [actL, hdst]
        · rcases List.mem_append.1 hk with hk | hk
          · have : k ≠ i := fun h => hin (h ▸ hk)
            simp only [this, if_false]
            exact hst k _ _ _ (hdn.fact k hk) hr
          · obtain rfl : k = i := by simpa using hk
            simpa using hv
      unfold wpOp
      simp only [ho]
      split
      · rename_i hw
        simp only [hw, if_true] at hthis
        exact .inl (gAt_wp hthis next)
      · rename_i hw
        simp only [hw] at hthis
        exact next undef w (hrr w) (by simpa using hthis)
/-! ### For the walk -/
def gFacts (Vs : List (Value → World → Prop)) (u : Nat → Value) (w : World) : List Nat → Prop
  | [] => True
  | k :: ks => (Vs.getD k (fun _ _ => False)) (u k) w ∧ gFacts Vs u w ks
theorem gFacts_of {Vs : List (Value → World → Prop)} {u : Nat → Value} {w : World} : ∀ {ks : List Nat}, (∀ k ∈ ks, (Vs.getD k (fun _ _ => False)) (u k) w) → gFacts Vs u w ks
  | [], _ => trivial
  | k :: _, h => ⟨h k (by simp), gFacts_of fun k' hk' => h k' (by simp [hk'])⟩
inductive gGoals (P : Program) (R : World → World → Prop) (ops : Array Oper) (a : Act) (W : World) (Vs : List (Value → World → Prop)) : List Oper → List (List Nat) → List (Value → World → Prop) → Prop
  | nil {ds : List (List Nat)} {vs : List (Value → World → Prop)} : gGoals P R ops a W Vs [] ds vs
  | cons {o : Oper} {os : List Oper} {d : List Nat} {ds : List (List Nat)} {v : Value → World → Prop} {vs : List (Value → World → Prop)} :
      (∀ u w, R W w → gFacts Vs u w d → gOp P R ops o (actL ops u d a) v w) → gGoals P R ops a W Vs os ds vs → gGoals P R ops a W Vs (o :: os) (d :: ds) (v :: vs)
theorem gGoals.at {a : Act} {W : World} {Vs : List (Value → World → Prop)} {os : List Oper} {ds : List (List Nat)} {vs : List (Value → World → Prop)} (h : gGoals P R ops a W Vs os ds vs) :
    ∀ i o, os[i]? = some o → ∀ u w, R W w → gFacts Vs u w (ds.getD i []) → gOp P R ops o (actL ops u (ds.getD i []) a) (vs.getD i (fun _ _ => False)) w := by
  induction h with
  | nil => intro i o ho; simp at ho
  | cons h1 _ ih =>
    intro i o ho
    cases i with
    | zero => obtain rfl : _ = o := by simpa using ho
              exact h1
    | succ i => exact ih i o (by simpa using ho)
inductive gEnd (Q : Act → World → Prop) : List Oper → List (Value → World → Prop) → Act → World → Prop
  | nil {vs : List (Value → World → Prop)} {a : Act} {w : World} : Q a w → gEnd Q [] vs a w
  | cons {o : Oper} {os : List Oper} {v : Value → World → Prop} {vs : List (Value → World → Prop)} {a : Act} {w : World} : (∀ x, v x w → gEnd Q os vs (a.put o.dst x) w) → gEnd Q (o :: os) (v :: vs) a w
theorem gEnd.out {Q : Act → World → Prop} {u : Nat → Value} {w : World} : ∀ (os : List Oper) (vs : List (Value → World → Prop)) (a : Act) (k : Nat), (∀ j, os[j]? = ops[k + j]?) → (∀ j < os.length, (vs.getD j (fun _ _ => False)) (u (k + j)) w) →
    gEnd Q os vs a w → Q (actL ops u (List.range' k os.length) a) w
  | [], _, _, _, _, _, h => by cases h with | nil h => exact h
  | o :: os, vs, a, k, ho, hv, h => by
    cases h with
    | cons h =>
      have h0 : ops[k]? = some o := by simpa using (ho 0).symm
      have h1 := h (u k) (by simpa using hv 0 (by simp))
      have := gEnd.out os _ _ (k + 1) (fun j => by have := ho (j + 1); simpa [Nat.add_assoc, Nat.add_comm 1 j] using this) (fun j hj => by have := hv (j + 1) (by simp; omega); simpa [Nat.add_assoc, Nat.add_comm 1 j] using this) h1
      rw [List.length_cons, List.range'_succ]
      show Q (actL ops u _ (a.put (dstOf ops k) (u k))) w
      have hd : dstOf ops k = o.dst := by unfold dstOf; rw [h0]; rfl
      rw [hd]
      exact this
/-- what only adds -/
def Grows (W W' : World) : Prop := Go.RowKit.Below W.heap.size W W'
theorem Grows.refl (W : World) : Grows W W := Go.RowKit.Below.refl _ _
theorem Grows.trans {a b c : World} (h : Grows a b) (h' : Grows b c) : Grows a c := Go.RowKit.Below.trans h (Go.RowKit.Below.mono h' h.size)
theorem Grows.drew (W : World) : Grows W W.drew := below_drewN (Go.RowKit.Below.refl _ _) 1
theorem Grows.alloc (W : World) (o : Obj) : Grows W (W.alloc o) := (Go.RowKit.Below.refl _ _).alloc (Nat.le_refl _) _
theorem Grows.block {W W' : World} (h : Grows W W') {b : Nat} {o : Obj} (hb : W.heap[b]? = some o) : W'.heap[b]? = some o := (Go.RowKit.Below.block h b (Array.getElem?_eq_some_iff.1 hb).1).trans hb
def Stable (V : Value → World → Prop) : Prop := ∀ v w w', V v w → Grows w w' → V v w'
/-- **Each operation once**: Vs: what holds of each operation's value, once it has been carried out, whatever is added to the world; D: the operations that each stands on. -/
theorem wp_region_grow {id : Nat} {Q : Exit → Act → World → Prop} {a : Act} {w : World} {l : List Oper} (Vs : List (Value → World → Prop)) (D : List (List Nat)) (hm : P.follows .mixedOrders = true) (hB : growB l.toArray D = true)
    (hst : ∀ V ∈ Vs, Stable V) (h : gGoals P Grows l.toArray a w Vs l D Vs) (hQ : ∀ w', Grows w w' → gEnd (Q .normal) l Vs a w') : (Code.region id l.toArray true).wp P Q a w := by
  simp only [growB, Bool.and_eq_true, List.all_eq_true, List.mem_range] at hB
  obtain ⟨⟨hs, hd⟩, hg⟩ := hB
  refine wp_region_any hm ?_
  refine grow_any (R := Grows) (V := fun i => Vs.getD i (fun _ _ => False)) (D := D) (a0 := a) (W := w) hs (apartB_spec hd) (fun _ _ _ => Grows.trans) Grows.refl (fun i v w w' hv hg => ?_) (fun i hi => hg i hi) ?_ (Q := Q) (fun u w' hr hf => ?_) _ (fun _ => undef) [] _ a w.drew (by simp) (fun j oj _ hl => by simp [Array.getD] at hl) ⟨by simp, by simp, fun k => by simp [Array.getD], rfl, Grows.drew w, fun k hk => by cases hk⟩
  · by_cases hi : i < Vs.length
    · have e : Vs.getD i (fun _ _ => False) = Vs[i] := by simp [hi]
      rw [e] at hv ⊢
      exact hst _ (List.getElem_mem hi) _ _ _ hv hg
    · have e : Vs.getD i (fun _ _ => False) = fun _ _ => False := by simp [Nat.le_of_not_lt hi]
      rw [e] at hv
      exact hv.elim
  · intro i o ho u w' hr hf
    exact h.at i o (by simpa using ho) u w' hr (gFacts_of hf)
  · have := gEnd.out (ops := l.toArray) (u := u) l Vs a 0 (by simp) (fun j hj => by simpa using hf j (by simpa using hj)) (hQ w' hr)
    rw [← List.range_eq_range'] at this
    simpa using this
theorem gop_n {o : Oper} {a : Act} {V : Value → World → Prop} {w : World} (hg : o.guard = none) (h : gAt P R V w ((execOp a.eval o).run P w)) : gOp P R ops o a V w := by
  unfold gOp
  rw [if_pos (by simp [Region.wanted, hg])]
  exact h
theorem gop_y {o : Oper} {a : Act} {V : Value → World → Prop} {w : World} {j : Nat} {b : Bool} (hg : o.guard = some (j, b)) (hy : yielded ops a.tmps j = some b) (h : gAt P R V w ((execOp a.eval o).run P w)) : gOp P R ops o a V w := by
  unfold gOp
  rw [if_pos (by simp [Region.wanted, hg, hy])]
  exact h
theorem gop_x {o : Oper} {a : Act} {V : Value → World → Prop} {w : World} {j : Nat} {b : Bool} (hg : o.guard = some (j, b)) (hy : yielded ops a.tmps j = some (!b)) (h : V undef w) : gOp P R ops o a V w := by
  unfold gOp
  rw [if_neg (by cases b <;> simp [Region.wanted, hg, hy])]
  exact h
end
attribute [go_sem] gAt actL dstOf
end Go.Proofs.YtpnmhldaaaemeaaGreat.Grow
/- The region's law of Grow, where one block may be written besides. -/
namespace Go.Proofs.YtpnmhldaaaemeaaGreat.Grow
open Go Go.Proofs.YtpnmhldaaaemeaaGreat.Pin
section
variable {P : Program}
/-- what only adds, but for block b -/
structure But (b : Nat) (w w' : World) : Prop where
  os : w'.os = w.os
  tape : w'.tape = w.tape
  output : w'.output = w.output
  size : w.heap.size ≤ w'.heap.size
  block : ∀ k, k < w.heap.size → k ≠ b → w'.heap[k]? = w.heap[k]?
  shape : ∀ c t fz, w.heap[b]? = some (.cells c t fz) → ∃ c', w'.heap[b]? = some (.cells c' t fz) ∧ c'.size = c.size
variable {b : Nat}
theorem But.refl (w : World) : But b w w := ⟨rfl, rfl, rfl, Nat.le_refl _, fun _ _ _ => rfl, fun c _ _ h => ⟨c, h, rfl⟩⟩
theorem But.trans {x y z : World} (h : But b x y) (k : But b y z) : But b x z :=
  ⟨k.os.trans h.os, k.tape.trans h.tape, k.output.trans h.output, Nat.le_trans h.size k.size, fun i hi hne => (k.block i (Nat.lt_of_lt_of_le hi h.size) hne).trans (h.block i hi hne), fun c t fz hc => by
    obtain ⟨c1, h1, e1⟩ := h.shape c t fz hc
    obtain ⟨c2, h2, e2⟩ := k.shape c1 t fz h1
    exact ⟨c2, h2, e2.trans e1⟩⟩
theorem But.drew (w : World) : But b w w.drew := ⟨rfl, rfl, rfl, Nat.le_refl _, fun _ _ _ => rfl, fun c _ _ h => ⟨c, h, rfl⟩⟩
theorem But.of_grows {w w' : World} (h : Grows w w') : But b w w' := ⟨Go.RowKit.Below.os h, Go.RowKit.Below.tape h, Go.RowKit.Below.output h, Go.RowKit.Below.size h, fun k hk _ => Go.RowKit.Below.block h k hk, fun c _ _ hc => ⟨c, (Go.RowKit.Below.block h b (Array.getElem?_eq_some_iff.1 hc).1).trans hc, rfl⟩⟩
theorem But.below {w w' : World} {B : Nat} (h : But b w w') (hb : B ≤ b) (hs : B ≤ w.heap.size) : Go.RowKit.Below B w w' := ⟨h.os, h.tape, h.output, h.size, fun k hk => h.block k (by omega) (by omega)⟩
theorem But.row {w : World} {c c' : Array Value} {t : TypeId} {fz : Nat × Nat} (hc : w.heap[b]? = some (.cells c t fz)) (hs : c'.size = c.size) : But b w (w.setRow b c') :=
  ⟨rfl, rfl, rfl, by simp [World.setRow], fun k _ hne => setRow_other w b k c' hne, fun d u fy hd => by
    rw [hc] at hd
    injection hd with hd
    injection hd with e1 e2 e3
    subst e1 e2 e3
    exact ⟨c', setRow_heap w b c c' t fz hc, hs⟩⟩
/-- a whole row stored -/
theorem gat_store_row {R : World → World → Prop} {o : Oper} {a : Act} {V : Value → World → Prop} {w : World} (ty : TypeId) (x y : Operand) (ho : o.op = .store ty x y) (g : Nat) (cells : Array Value) (hx : a.eval x = .pointer (some ⟨g, 0, none⟩)) (hy : a.eval y = .agg cells)
    (t : TypeId) (cur : Array Value) (hg : w.heap[g]? = some (.cells cur t (0, 0))) (hi : (P.info? ty).map (·.size) = some cells.size) (hsz : cur.size = cells.size) (h1 : cells.all (·.oneCell') = true)
    (h : R w (w.setRow g cells) ∧ V undef (w.setRow g cells)) : gAt P R V w ((execOp a.eval o).run P w) := by
  have hsv := run_storeVar_row (P := P) w g t ty cur cells hg hi hsz h1
  unfold execOp
  simp only [ho, hx, hy, Instr.storeAt, Instr.sureAddr, Sem.run_bind, Sem.run_pure, Result.andThen_ok, hsv]
  exact h
def StableB (b : Nat) (V : Value → World → Prop) : Prop := ∀ v w w', V v w → But b w w' → V v w'
theorem wp_region_but {id b : Nat} {Q : Exit → Act → World → Prop} {a : Act} {w : World} {l : List Oper} (Vs : List (Value → World → Prop)) (D : List (List Nat)) (hm : P.follows .mixedOrders = true) (hB : growB l.toArray D = true)
    (hst : ∀ V ∈ Vs, StableB b V) (h : gGoals P (But b) l.toArray a w Vs l D Vs) (hQ : ∀ w', But b w w' → gEnd (Q .normal) l Vs a w') : (Code.region id l.toArray true).wp P Q a w := by
  simp only [growB, Bool.and_eq_true, List.all_eq_true, List.mem_range] at hB
  obtain ⟨⟨hs, hd⟩, hg⟩ := hB
  refine wp_region_any hm ?_
  refine grow_any (R := But b) (V := fun i => Vs.getD i (fun _ _ => False)) (D := D) (a0 := a) (W := w) hs (apartB_spec hd) (fun _ _ _ => But.trans) But.refl (fun i v w w' hv hg => ?_) (fun i hi => hg i hi) ?_ (Q := Q) (fun u w' hr hf => ?_) _ (fun _ => undef) [] _ a w.drew (by simp) (fun j oj _ hl => by simp [Array.getD] at hl) ⟨by simp, by simp, fun k => by simp [Array.getD], rfl, But.drew w, fun k hk => by cases hk⟩
  · by_cases hi : i < Vs.length
    · have e : Vs.getD i (fun _ _ => False) = Vs[i] := by simp [hi]
      rw [e] at hv ⊢
      exact hst _ (List.getElem_mem hi) _ _ _ hv hg
    · have e : Vs.getD i (fun _ _ => False) = fun _ _ => False := by simp [Nat.le_of_not_lt hi]
      rw [e] at hv
      exact hv.elim
  · intro i o ho u w' hr hf
    exact h.at i o (by simpa using ho) u w' hr (gFacts_of hf)
  · have := gEnd.out (ops := l.toArray) (u := u) l Vs a 0 (by simp) (fun j hj => by simpa using hf j (by simpa using hj)) (hQ w' hr)
    rw [← List.range_eq_range'] at this
    simpa using this
end
end Go.Proofs.YtpnmhldaaaemeaaGreat.Grow
