/- FileCrashes, plainly: four files, what was written, what is durable, what a crash leaves. -/
import Derived.Test.YtjjcicfilbfbjaaFileFailsW
namespace Go.Proofs.Ytjjcicfilbfbjaa.FileCrashes
open Go.RowKit Go.Maps Go.Sort Go.Proofs.Ytjjcicfilbfbjaa.Pin Go.Proofs.Ytjjcicfilbfbjaa.Gon Go.Proofs.Ytjjcicfilbfbjaa.Mps Go.Proofs.Ytjjcicfilbfbjaa.Dsk

def nm : Nat → ByteArray
  | 0 => ⟨#[97]⟩
  | 1 => ⟨#[98]⟩
  | 2 => ⟨#[99]⟩
  | _ => ⟨#[100]⟩
theorem lt4 {k : Nat} (h : k < 4) : k = 0 ∨ k = 1 ∨ k = 2 ∨ k = 3 := by omega
theorem nm_size {k : Nat} (h : k < 4) : (nm k).size = 1 := by
  rcases lt4 h with rfl | rfl | rfl | rfl <;> rfl
theorem nm_inj {i j : Nat} (hi : i < 4) (hj : j < 4) (h : nm i = nm j) : i = j := by
  rcases lt4 hi with rfl | rfl | rfl | rfl <;> rcases lt4 hj with rfl | rfl | rfl | rfl <;> first | rfl | (exact absurd h (by decide))
def upd {α : Type} (f : Nat → α) (k : Nat) (v : α) : Nat → α := fun j => if j = k then v else f j
theorem upd_same {α : Type} (f : Nat → α) (k : Nat) (v : α) : upd f k v k = v := by simp [upd]
theorem upd_ne {α : Type} (f : Nat → α) {k j : Nat} (v : α) (h : j ≠ k) : upd f k v j = f j := by simp [upd, h]
/-- the disk's files are these -/
structure Rel (l : List Abs) (W : Nat → ByteArray) (Y : Nat → Nat) (D : Nat → Bool) : Prop where
  names : (l.map (·.1)).Nodup
  mem : ∀ a, a ∈ l ↔ ∃ k, k < 4 ∧ D k = true ∧ a = (nm k, W k, Y k)
theorem Rel.fresh {l : List Abs} {W : Nat → ByteArray} {Y : Nat → Nat} {D : Nat → Bool} (h : Rel l W Y D) {k : Nat} (hk : k < 4) (hd : D k = false) : ∀ a ∈ l, a.1 ≠ nm k := by
  intro a ha e
  obtain ⟨j, hj, hD, rfl⟩ := (h.mem a).1 ha
  have := nm_inj hj hk e
  subst this
  rw [hd] at hD
  cases hD
theorem Rel.push {l : List Abs} {W : Nat → ByteArray} {Y : Nat → Nat} {D : Nat → Bool} (h : Rel l W Y D) {k : Nat} (hk : k < 4) (hd : D k = false) (b : ByteArray) (d : Nat) : Rel (l ++ [(nm k, b, d)]) (upd W k b) (upd Y k d) (upd D k true) := by
  have hf := h.fresh hk hd
  refine ⟨?_, fun a => ?_⟩
  · rw [List.map_append, List.nodup_append]
    refine ⟨h.names, by simp, fun x hx y hy e => ?_⟩
    obtain ⟨a, ha, rfl⟩ := List.mem_map.1 hx
    simp only [List.map_cons, List.map_nil, List.mem_singleton] at hy
    exact hf a ha (e.trans hy)
  · rw [List.mem_append, List.mem_singleton, h.mem]
    constructor
    · rintro (⟨j, hj, hD, rfl⟩ | rfl)
      · have hne : j ≠ k := fun e => by rw [e, hd] at hD; cases hD
        exact ⟨j, hj, by rw [upd_ne _ _ hne]; exact hD, by rw [upd_ne _ _ hne, upd_ne _ _ hne]⟩
      · exact ⟨k, hk, upd_same _ _ _, by rw [upd_same, upd_same]⟩
    · rintro ⟨j, hj, hD, rfl⟩
      by_cases hne : j = k
      · subst hne
        right
        rw [upd_same, upd_same]
      · left
        rw [upd_ne _ _ hne] at hD
        exact ⟨j, hj, hD, by rw [upd_ne _ _ hne, upd_ne _ _ hne]⟩
theorem Rel.update {la lb : List Abs} {a : Abs} {W : Nat → ByteArray} {Y : Nat → Nat} {D : Nat → Bool} (h : Rel (la ++ a :: lb) W Y D) {k : Nat} (hk : k < 4) (hd : D k = true) (ha : a.1 = nm k) (b : ByteArray) (d : Nat) :
    Rel (la ++ (nm k, b, d) :: lb) (upd W k b) (upd Y k d) D := by
  have hn := h.names
  have hn' := hn
  rw [List.map_append, List.map_cons, List.nodup_append] at hn'
  obtain ⟨_, h2, h3⟩ := hn'
  rw [List.nodup_cons] at h2
  have other : ∀ x, (x ∈ la ∨ x ∈ lb) → x.1 ≠ nm k := by
    intro x hx e
    rcases hx with hx | hx
    · exact h3 x.1 (List.mem_map.2 ⟨x, hx, rfl⟩) a.1 (by simp) (e.trans ha.symm)
    · exact h2.1 (List.mem_map.2 ⟨x, hx, e.trans ha.symm⟩)
  refine ⟨?_, fun x => ?_⟩
  · rw [List.map_append, List.map_cons] at hn ⊢
    rw [ha] at hn
    exact hn
  · have hm := h.mem x
    simp only [List.mem_append, List.mem_cons] at hm ⊢
    constructor
    · intro hx
      have key : (x ∈ la ∨ x ∈ lb) → ∃ k_1, k_1 < 4 ∧ D k_1 = true ∧ x = (nm k_1, upd W k b k_1, upd Y k d k_1) := by
        intro hx
        have hne := other x hx
        obtain ⟨j, hj, hD, rfl⟩ := hm.1 (by rcases hx with h | h; exact .inl h; exact .inr (.inr h))
        have hjk : j ≠ k := fun e => hne (by rw [e])
        exact ⟨j, hj, hD, by rw [upd_ne _ _ hjk, upd_ne _ _ hjk]⟩
      rcases hx with hx | rfl | hx
      · exact key (.inl hx)
      · exact ⟨k, hk, hd, by rw [upd_same, upd_same]⟩
      · exact key (.inr hx)
    · rintro ⟨j, hj, hD, rfl⟩
      by_cases hjk : j = k
      · subst hjk
        right; left
        rw [upd_same, upd_same]
      · rw [upd_ne _ _ hjk, upd_ne _ _ hjk] at hm ⊢
        rcases hm.2 ⟨j, hj, hD, rfl⟩ with h | h | h
        · exact .inl h
        · exfalso
          have : nm j = nm k := by rw [← ha, ← h]
          exact hjk (nm_inj hj hk this)
        · exact .inr (.inr h)
theorem Rel.split {l : List Abs} {W : Nat → ByteArray} {Y : Nat → Nat} {D : Nat → Bool} (h : Rel l W Y D) {k : Nat} (hk : k < 4) (hd : D k = true) : ∃ la lb, l = la ++ (nm k, W k, Y k) :: lb :=
  List.append_of_mem ((h.mem _).2 ⟨k, hk, hd, rfl⟩)
def pos (D : Nat → Bool) : Nat → Nat
  | 0 => 0
  | k + 1 => pos D k + if D k then 1 else 0
def madeL (D : Nat → Bool) : List (List UInt8) := ((List.range 4).filter D).map fun k => (nm k).data.toList
theorem made_sorted (D : Nat → Bool) : (madeL D).mergeSort leB = madeL D := by
  refine List.mergeSort_of_pairwise ?_
  unfold madeL
  have e : List.range 4 = [0, 1, 2, 3] := rfl
  rw [e]
  cases h0 : D 0 <;> cases h1 : D 1 <;> cases h2 : D 2 <;> cases h3 : D 3 <;> simp only [List.filter, h0, h1, h2, h3] <;> decide
theorem made_idx (D : Nat → Bool) {k : Nat} (hk : k < 4) (hd : D k = true) : (madeL D).idxOf (nm k).data.toList = pos D k := by
  unfold madeL
  have e : List.range 4 = [0, 1, 2, 3] := rfl
  rw [e]
  rcases lt4 hk with rfl | rfl | rfl | rfl <;> cases h0 : D 0 <;> cases h1 : D 1 <;> cases h2 : D 2 <;> cases h3 : D 3 <;> first | (simp only [List.filter, h0, h1, h2, h3, pos]; decide) | (rw [hd] at h0; cases h0; done) | (rw [hd] at h1; cases h1; done) | (rw [hd] at h2; cases h2; done) | (rw [hd] at h3; cases h3; done)
theorem Rel.names_made {l : List Abs} {W : Nat → ByteArray} {Y : Nat → Nat} {D : Nat → Bool} (h : Rel l W Y D) : namesL l = madeL D := by
  have hp : (l.map key).Perm (madeL D) := by
    refine (List.perm_ext_iff_of_nodup ?_ ?_).2 fun x => ?_
    · have := h.names
      rw [List.nodup_iff_pairwise_ne, List.pairwise_map] at this ⊢
      exact this.imp (fun hne e => hne (key_inj e))
    · unfold madeL
      have e : List.range 4 = [0, 1, 2, 3] := rfl
      rw [e]
      cases h0 : D 0 <;> cases h1 : D 1 <;> cases h2 : D 2 <;> cases h3 : D 3 <;> simp only [List.filter, h0, h1, h2, h3] <;> decide
    · unfold madeL
      simp only [List.mem_map, List.mem_filter, List.mem_range]
      constructor
      · rintro ⟨a, ha, rfl⟩
        obtain ⟨k, hk, hD, rfl⟩ := (h.mem a).1 ha
        exact ⟨k, ⟨hk, hD⟩, rfl⟩
      · rintro ⟨k, ⟨hk, hD⟩, rfl⟩
        exact ⟨_, (h.mem _).2 ⟨k, hk, hD, rfl⟩, rfl⟩
  unfold namesL
  rw [mergeSort_of_perm hp, made_sorted]
def kept (keep : List Int) (W : Nat → ByteArray) (Y : Nat → Nat) (D : Nat → Bool) (k : Nat) : Nat := keptN keep (pos D k) (W k) (Y k)
theorem Rel.crash {l : List Abs} {W : Nat → ByteArray} {Y : Nat → Nat} {D : Nat → Bool} (h : Rel l W Y D) (keep : List Int) : Rel (crashAll keep l) (fun k => cutB (W k) (kept keep W Y D k)) (kept keep W Y D) D := by
  have hone : ∀ k, k < 4 → D k = true → crash1 keep ((namesL l).idxOf (key (nm k, W k, Y k))) (nm k, W k, Y k) = (nm k, cutB (W k) (kept keep W Y D k), kept keep W Y D k) := by
    intro k hk hD
    have e : (namesL l).idxOf (key (nm k, W k, Y k)) = pos D k := by
      rw [h.names_made]
      exact made_idx D hk hD
    rw [e]
    rfl
  refine ⟨?_, fun a => ?_⟩
  · unfold crashAll
    rw [List.map_map]
    have e : ((fun x : Abs => x.1) ∘ fun a => crash1 keep (List.idxOf (key a) (namesL l)) a) = fun a => a.1 := rfl
    rw [e]
    exact h.names
  · unfold crashAll
    rw [List.mem_map]
    constructor
    · rintro ⟨b, hb, rfl⟩
      obtain ⟨k, hk, hD, rfl⟩ := (h.mem b).1 hb
      exact ⟨k, hk, hD, hone k hk hD⟩
    · rintro ⟨k, hk, hD, rfl⟩
      exact ⟨_, (h.mem _).2 ⟨k, hk, hD, rfl⟩, hone k hk hD⟩
theorem crash_tot (keep : List Int) (l : List Abs) (h : ∀ a ∈ l, a.2.2 ≤ a.2.1.size) : tot (crashAll keep l) ≤ tot l := by
  unfold crashAll
  generalize namesL l = ns
  induction l with
  | nil => simp
  | cons a r ih =>
    rw [List.map_cons, tot_cons, tot_cons]
    have h1 := ih (fun x hx => h x (by simp [hx]))
    have h2 := keptN_le keep (ns.idxOf (key a)) a.2.1 a.2.2 (h a (by simp))
    have h3 : (crash1 keep (ns.idxOf (key a)) a).2.1.size = keptN keep (ns.idxOf (key a)) a.2.1 a.2.2 := by
      show (cutB _ _).size = _
      exact cutB_size _ _ h2.1
    omega
theorem crash_len (keep : List Int) (l : List Abs) : (crashAll keep l).length = l.length := by simp [crashAll]
theorem Rel.fine {l : List Abs} {W : Nat → ByteArray} {Y : Nat → Nat} {D : Nat → Bool} (h : Rel l W Y D) (hY : ∀ k, k < 4 → Y k ≤ (W k).size) {C : Int} (ht : (tot l : Int) ≤ C) (hC : C ≤ 1073741824) (hl : l.length ≤ 1000000) : Fine C l :=
  ⟨h.names, fun a ha => by
    obtain ⟨k, hk, _, rfl⟩ := (h.mem a).1 ha
    show (nm k).size ≤ 255
    rw [nm_size hk]
    omega, fun a ha => by
    obtain ⟨k, hk, _, rfl⟩ := (h.mem a).1 ha
    exact hY k hk, ht, hC, hl⟩
def row4 (f : Nat → Value) : Array Value := #[f 0, f 1, f 2, f 3]
theorem row4_get (f : Nat → Value) {k : Nat} (h : k < 4) : (row4 f)[k]? = some (f k) := by
  rcases lt4 h with rfl | rfl | rfl | rfl <;> rfl
theorem row4_set (f : Nat → Value) {k : Nat} (h : k < 4) (v : Value) : (row4 f).setIfInBounds k v = row4 (upd f k v) := by
  rcases lt4 h with rfl | rfl | rfl | rfl <;> rfl
theorem cut_extract (b : ByteArray) (k : Nat) : cutB b k = b.extract 0 k := by
  have : (cutB b k).data.toList = (b.extract 0 k).data.toList := by
    simp [cutB]
  have h2 := Array.toList_inj.1 this
  generalize cutB b k = x at *
  generalize b.extract 0 k = y at *
  cases x; cases y
  congr 1
end Go.Proofs.Ytjjcicfilbfbjaa.FileCrashes
