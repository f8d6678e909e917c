/- FileCrashes: the disk beside the law's three lists. -/
import Derived.Test.YtjjcicfilbfbjaaDo04
namespace Go.Proofs.Ytjjcicfilbfbjaa.FileCrashes
open Go.RowKit Go.Maps Go.Sort Go.Proofs.Ytjjcicfilbfbjaa.Pin Go.Proofs.Ytjjcicfilbfbjaa.Gon Go.Proofs.Ytjjcicfilbfbjaa.Mps Go.Proofs.Ytjjcicfilbfbjaa.Dsk Go.Proofs.Ytjjcicfilbfbjaa.FileFails

structure Sta (wr : World) (B : Nat) (w1 : World) (g : Nat) (own : List Nat) (ra rb rc : Nat) (W : Nat → ByteArray) (Y : Nat → Nat) (D : Nat → Bool) (l : List Abs) (n : Int) : Prop where
  disk : Do wr own g 2097152 n l
  owns : ∀ r ∈ own, B ≤ r
  below : Below B w1 wr
  rowa : wr.heap[ra]? = some (.cells (row4 fun k => .string (W k)) 9 (0, 0))
  rowb : wr.heap[rb]? = some (.cells (row4 fun k => .int .i64 (Y k : Int)) 3 (0, 0))
  rowc : wr.heap[rc]? = some (.cells (row4 fun k => .bool (D k)) 4 (0, 0))
  apart : ra ∉ own ∧ rb ∉ own ∧ rc ∉ own
  ge : B ≤ ra ∧ B ≤ rb ∧ B ≤ rc
  ne : ra ≠ rb ∧ ra ≠ rc ∧ rb ≠ rc
variable {wr w1 : World} {B g ra rb rc : Nat} {own : List Nat} {W : Nat → ByteArray} {Y : Nat → Nat} {D : Nat → Bool} {l : List Abs} {n : Int}
theorem Sta.big (h : Sta wr B w1 g own ra rb rc W Y D l n) : B ≤ wr.heap.size := by
  have := (Array.getElem?_eq_some_iff.1 h.rowa).1
  have := h.ge.1
  omega
theorem Sta.drewN (h : Sta wr B w1 g own ra rb rc W Y D l n) (k : Nat) : Sta (wr.drewN k) B w1 g own ra rb rc W Y D l n :=
  ⟨h.disk.drewN k, h.owns, below_drewN h.below k, h.rowa, h.rowb, h.rowc, h.apart, h.ge, h.ne⟩
theorem Sta.call {wr' : World} {own' : List Nat} {l' : List Abs} {n' : Int} (h : Sta wr B w1 g own ra rb rc W Y D l n) (hd : Do wr' own' g 2097152 n' l') (ht : Turned own own' wr wr') : Sta wr' B w1 g own' ra rb rc W Y D l' n' := by
  have la := (Array.getElem?_eq_some_iff.1 h.rowa).1
  have lb := (Array.getElem?_eq_some_iff.1 h.rowb).1
  have lc := (Array.getElem?_eq_some_iff.1 h.rowc).1
  have hB := h.big
  have fr : ∀ r, r < wr.heap.size → r ∉ own → r ∉ own' := fun r h1 h2 h3 => by
    rcases ht.fresh r h3 with h4 | h4
    · exact h2 h4
    · omega
  exact ⟨hd, fun r hr => by
    rcases ht.fresh r hr with h4 | h4
    · exact h.owns r h4
    · omega, h.below.trans (ht.below hB h.owns), (ht.block ra la h.apart.1).trans h.rowa, (ht.block rb lb h.apart.2.1).trans h.rowb, (ht.block rc lc h.apart.2.2).trans h.rowc, ⟨fr _ la h.apart.1, fr _ lb h.apart.2.1, fr _ lc h.apart.2.2⟩, h.ge, h.ne⟩
theorem Sta.cella (h : Sta wr B w1 g own ra rb rc W Y D l n) {k : Nat} (hk : k < 4) : wr.cell? ⟨ra, k, none⟩ = some (.string (W k)) ∧ wr.frozen? ⟨ra, k, none⟩ = false :=
  ⟨by rw [Lib.cell_of_heap h.rowa]; exact row4_get _ hk, by simp [World.frozen?, h.rowa]⟩
theorem Sta.cellb (h : Sta wr B w1 g own ra rb rc W Y D l n) {k : Nat} (hk : k < 4) : wr.cell? ⟨rb, k, none⟩ = some (.int .i64 (Y k : Int)) ∧ wr.frozen? ⟨rb, k, none⟩ = false :=
  ⟨by rw [Lib.cell_of_heap h.rowb]; exact row4_get _ hk, by simp [World.frozen?, h.rowb]⟩
theorem Sta.cellc (h : Sta wr B w1 g own ra rb rc W Y D l n) {k : Nat} (hk : k < 4) : wr.cell? ⟨rc, k, none⟩ = some (.bool (D k)) ∧ wr.frozen? ⟨rc, k, none⟩ = false :=
  ⟨by rw [Lib.cell_of_heap h.rowc]; exact row4_get _ hk, by simp [World.frozen?, h.rowc]⟩
theorem row4_upd {α : Type} (c : α → Value) (f : Nat → α) (k : Nat) (v : α) : row4 (upd (fun j => c (f j)) k (c v)) = row4 (fun j => c (upd f k v j)) := by
  congr 1
  funext j
  unfold upd
  split <;> rfl
theorem Sta.seta (h : Sta wr B w1 g own ra rb rc W Y D l n) {k : Nat} (hk : k < 4) (b : ByteArray) : Sta (wr.setCell ⟨ra, k, none⟩ (.string b)) B w1 g own ra rb rc (upd W k b) Y D l n := by
  refine ⟨h.disk.same (fun r hr => Below.heap_setCell _ _ _ _ (fun e => h.apart.1 (by have e : r = ra := e; rw [← e]; exact hr))), h.owns, h.below.setCell h.ge.1 _, ?_, ?_, ?_, h.apart, h.ge, h.ne⟩
  · rw [heap_setCell_same _ ra k _ _ _ h.rowa, row4_set _ hk]
    exact congrArg (fun x => some (Obj.cells x 9 (0, 0))) (row4_upd Value.string W k b)
  · exact (Below.heap_setCell _ _ _ _ (fun e => h.ne.1 e.symm)).trans h.rowb
  · exact (Below.heap_setCell _ _ _ _ (fun e => h.ne.2.1 e.symm)).trans h.rowc
theorem Sta.setb (h : Sta wr B w1 g own ra rb rc W Y D l n) {k : Nat} (hk : k < 4) (b : Nat) : Sta (wr.setCell ⟨rb, k, none⟩ (.int .i64 (b : Int))) B w1 g own ra rb rc W (upd Y k b) D l n := by
  refine ⟨h.disk.same (fun r hr => Below.heap_setCell _ _ _ _ (fun e => h.apart.2.1 (by have e : r = rb := e; rw [← e]; exact hr))), h.owns, h.below.setCell h.ge.2.1 _, ?_, ?_, ?_, h.apart, h.ge, h.ne⟩
  · exact (Below.heap_setCell _ _ _ _ (fun e => h.ne.1 e)).trans h.rowa
  · rw [heap_setCell_same _ rb k _ _ _ h.rowb, row4_set _ hk]
    exact congrArg (fun x => some (Obj.cells x 3 (0, 0))) (row4_upd (fun x : Nat => Value.int .i64 (x : Int)) Y k b)
  · exact (Below.heap_setCell _ _ _ _ (fun e => h.ne.2.2 e.symm)).trans h.rowc
theorem Sta.setc (h : Sta wr B w1 g own ra rb rc W Y D l n) {k : Nat} (hk : k < 4) (b : Bool) : Sta (wr.setCell ⟨rc, k, none⟩ (.bool b)) B w1 g own ra rb rc W Y (upd D k b) l n := by
  refine ⟨h.disk.same (fun r hr => Below.heap_setCell _ _ _ _ (fun e => h.apart.2.2 (by have e : r = rc := e; rw [← e]; exact hr))), h.owns, h.below.setCell h.ge.2.2 _, ?_, ?_, ?_, h.apart, h.ge, h.ne⟩
  · exact (Below.heap_setCell _ _ _ _ (fun e => h.ne.2.1 e)).trans h.rowa
  · exact (Below.heap_setCell _ _ _ _ (fun e => h.ne.2.2 e)).trans h.rowb
  · rw [heap_setCell_same _ rc k _ _ _ h.rowc, row4_set _ hk]
    exact congrArg (fun x => some (Obj.cells x 4 (0, 0))) (row4_upd Value.bool D k b)
/-- an append by the law's own view -/
theorem put_any (own : List Nat) (g : Nat) (l : List Abs) (W : Nat → ByteArray) (Y : Nat → Nat) (D : Nat → Bool) (k : Nat) (hk : k < 4) (s : ByteArray) (w : World) (h : Do w own g 2097152 (-1) l) (hr : Rel l W Y D) (hY : ∀ k, k < 4 → Y k ≤ (W k).size) (h0 : ∀ k, k < 4 → D k = false → W k = ⟨#[]⟩ ∧ Y k = 0)
    (ht : tot l + s.size ≤ 2000000) (hl : l.length ≤ 999999) :
    Calls Try.prog 9 #[.pointer (some ⟨g, 0, none⟩), .string (nm k), .string s] w fun e w' => e = .returned (.int .i64 0) ∧ ∃ own' l', Do w' own' g 2097152 (-1) l' ∧ Turned own own' w w' ∧ Rel l' (upd W k (W k ++ s)) (upd Y k (Y k)) (upd D k true) ∧ tot l' = tot l + s.size ∧ l'.length ≤ l.length + 1 := by
  have hF : Fine 2097152 l := hr.fine hY (by omega) (by decide) (by omega)
  have hns := nm_size hk
  cases hD : D k with
  | false =>
    obtain ⟨e1, e2⟩ := h0 k hk hD
    refine (append_no own g 2097152 (-1) l (nm k) s w h hF (hr.fresh hk hD) (by omega) (by omega) (by decide) (by decide) (by omega)).mono ?_
    rintro e w' ⟨rfl, own', hd, ht'⟩
    refine ⟨rfl, own', _, hd, ht', ?_, ?_, by simp⟩
    · rw [e1, e2, empty_app]
      exact hr.push hk hD s 0
    · rw [tot_append]
      simp [tot]
  | true =>
    obtain ⟨la, lb, rfl⟩ := hr.split hk hD
    refine (append_o own g 2097152 (-1) la (nm k, W k, Y k) lb s w h hF (by show 0 < (nm k).size; omega) (by decide) (by decide) (by omega)).mono ?_
    rintro e w' ⟨rfl, own', hd, ht'⟩
    have hu : upd D k true = D := by
      funext j
      unfold upd
      split
      · rename_i e; rw [e, hD]
      · rfl
    refine ⟨rfl, own', _, hd, ht', ?_, ?_, by simp⟩
    · rw [hu]
      exact hr.update hk hD rfl _ _
    · rw [tot_split, tot_split]
      show tot la + (W k ++ s).size + tot lb = _
      rw [size_append]
      show _ = tot la + (W k).size + tot lb + s.size
      omega
theorem sync_any (own : List Nat) (g : Nat) (l : List Abs) (W : Nat → ByteArray) (Y : Nat → Nat) (D : Nat → Bool) (k : Nat) (hk : k < 4) (w : World) (h : Do w own g 2097152 (-1) l) (hr : Rel l W Y D) (hY : ∀ k, k < 4 → Y k ≤ (W k).size) (hD : D k = true) (ht : tot l ≤ 2000000) (hl : l.length ≤ 1000000) :
    Calls Try.prog 11 #[.pointer (some ⟨g, 0, none⟩), .string (nm k)] w fun e w' => e = .returned (.int .i64 0) ∧ ∃ own' l', Do w' own' g 2097152 (-1) l' ∧ Turned own own' w w' ∧ Rel l' (upd W k (W k)) (upd Y k (W k).size) D ∧ tot l' = tot l ∧ l'.length = l.length := by
  have hF : Fine 2097152 l := hr.fine hY (by omega) (by decide) hl
  obtain ⟨la, lb, rfl⟩ := hr.split hk hD
  refine (sync_o own g 2097152 (-1) la (nm k, W k, Y k) lb w h hF (by decide) (by decide)).mono ?_
  rintro e w' ⟨rfl, own', hd, ht'⟩
  refine ⟨rfl, own', _, hd, ht', hr.update hk hD rfl _ _, ?_, by simp⟩
  rw [tot_split, tot_split]
theorem upd_self {α : Type} (f : Nat → α) (k : Nat) : upd f k (f k) = f := by
  funext j
  unfold upd
  split
  · rename_i e; rw [e]
  · rfl
theorem inv_put {W : Nat → ByteArray} {Y : Nat → Nat} {D : Nat → Bool} (k : Nat) (x : ByteArray) (hY : ∀ k, k < 4 → Y k ≤ (W k).size) (hZ : ∀ k, k < 4 → D k = false → W k = ⟨#[]⟩ ∧ Y k = 0) :
    (∀ i, i < 4 → Y i ≤ (upd W k (W k ++ x) i).size) ∧ (∀ i, i < 4 → upd D k true i = false → upd W k (W k ++ x) i = ⟨#[]⟩ ∧ Y i = 0) := by
  refine ⟨fun i hi => ?_, fun i hi h => ?_⟩
  · by_cases e : i = k
    · subst e
      rw [upd_same, size_append]
      have := hY i hi
      omega
    · rw [upd_ne _ _ e]
      exact hY i hi
  · by_cases e : i = k
    · subst e
      rw [upd_same] at h
      cases h
    · rw [upd_ne _ _ e] at h ⊢
      exact hZ i hi h
theorem inv_sync {W : Nat → ByteArray} {Y : Nat → Nat} {D : Nat → Bool} (k : Nat) (hD : D k = true) (hY : ∀ k, k < 4 → Y k ≤ (W k).size) (hZ : ∀ k, k < 4 → D k = false → W k = ⟨#[]⟩ ∧ Y k = 0) :
    (∀ i, i < 4 → upd Y k (W k).size i ≤ (W i).size) ∧ (∀ i, i < 4 → D i = false → W i = ⟨#[]⟩ ∧ upd Y k (W k).size i = 0) := by
  refine ⟨fun i hi => ?_, fun i hi h => ?_⟩
  · by_cases e : i = k
    · subst e
      rw [upd_same]
      exact Nat.le_refl _
    · rw [upd_ne _ _ e]
      exact hY i hi
  · by_cases e : i = k
    · subst e
      rw [hD] at h
      cases h
    · rw [upd_ne _ _ e]
      exact hZ i hi h
theorem put_there (own : List Nat) (g : Nat) (l : List Abs) (W : Nat → ByteArray) (Y : Nat → Nat) (D : Nat → Bool) (k : Nat) (hk : k < 4) (s : ByteArray) (w : World) (h : Do w own g 2097152 (-1) l) (hr : Rel l W Y D) (hY : ∀ k, k < 4 → Y k ≤ (W k).size) (hD : D k = true)
    (ht : tot l + s.size ≤ 2000000) (hl : l.length ≤ 999999) :
    Calls Try.prog 9 #[.pointer (some ⟨g, 0, none⟩), .string (nm k), .string s] w fun e w' => e = .returned (.int .i64 0) ∧ ∃ own' l', Do w' own' g 2097152 (-1) l' ∧ Turned own own' w w' ∧ Rel l' (upd W k (W k ++ s)) Y D ∧ tot l' = tot l + s.size ∧ l'.length = l.length := by
  have hF : Fine 2097152 l := hr.fine hY (by omega) (by decide) (by omega)
  have hns := nm_size hk
  obtain ⟨la, lb, rfl⟩ := hr.split hk hD
  refine (append_o own g 2097152 (-1) la (nm k, W k, Y k) lb s w h hF (by show 0 < (nm k).size; omega) (by decide) (by decide) (by omega)).mono ?_
  rintro e w' ⟨rfl, own', hd, ht'⟩
  refine ⟨rfl, own', _, hd, ht', ?_, ?_, by simp⟩
  · have := hr.update hk hD rfl (W k ++ s) (Y k)
    rw [upd_self] at this
    exact this
  · rw [tot_split, tot_split]
    show tot la + (W k ++ s).size + tot lb = _
    rw [size_append]
    show _ = tot la + (W k).size + tot lb + s.size
    omega
theorem inv_there {W : Nat → ByteArray} {Y : Nat → Nat} (k : Nat) (x : ByteArray) (hY : ∀ k, k < 4 → Y k ≤ (W k).size) : ∀ i, i < 4 → Y i ≤ (upd W k (W k ++ x) i).size := by
  intro i hi
  by_cases e : i = k
  · subst e
    rw [upd_same, size_append]
    have := hY i hi
    omega
  · rw [upd_ne _ _ e]
    exact hY i hi
theorem keep_move {w w' : World} {own : List Nat} {A : Option Addr} {keep : List Int} (h : KeepAt w [] A keep) (hb : Below w.heap.size w w') (ho : ∀ r ∈ own, w.heap.size ≤ r) : KeepAt w' own A keep := by
  intro i hi
  obtain ⟨r, o, e, h1, h2, h3⟩ := h i hi
  exact ⟨r, o, e, Nat.lt_of_lt_of_le h1 hb.size, fun hm => by have := ho r hm; omega, (hb.cell (p := ⟨r, o + i, none⟩) h1).trans h3⟩
theorem kept_le (keep : List Int) {W : Nat → ByteArray} {Y : Nat → Nat} {D : Nat → Bool} (hY : ∀ k, k < 4 → Y k ≤ (W k).size) : ∀ i, i < 4 → kept keep W Y D i ≤ (W i).size ∧ Y i ≤ kept keep W Y D i := fun i hi => keptN_le keep _ _ _ (hY i hi)
theorem kept_size (keep : List Int) {W : Nat → ByteArray} {Y : Nat → Nat} {D : Nat → Bool} (hY : ∀ k, k < 4 → Y k ≤ (W k).size) : ∀ i, i < 4 → kept keep W Y D i ≤ (cutB (W i) (kept keep W Y D i)).size := fun i hi => by
  rw [cutB_size _ _ (kept_le keep hY i hi).1]
  exact Nat.le_refl _
theorem pos_le (D : Nat → Bool) : ∀ k, pos D k ≤ k
  | 0 => Nat.le_refl _
  | k + 1 => by
    have := pos_le D k
    unfold pos
    split <;> omega
end Go.Proofs.Ytjjcicfilbfbjaa.FileCrashes
