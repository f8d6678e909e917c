/- Chapter 09: SkipRanks, plainly. -/
import Derived.Test.YtmlaackdcnpjmaaDoorOrdP09
namespace Go.Proofs.YtmlaackdcnpjmaaDoor.Skp
open Go Go.RowKit Go.Proofs.YtmlaackdcnpjmaaDoor.Pin Go.Proofs.YtmlaackdcnpjmaaDoor.Flt
/-- the blocks that a list owns, but for those that are not there yet -/
theorem SkL.cut {w : World} {own : Nat → Prop} {s : Nat} {L : List Sc} (h : SkL w own s L) : SkL w (fun r => own r ∧ r < w.heap.size) s L := by
  obtain ⟨h1, seed, bl, ht, mem, h2, h3, h4⟩ := h
  exact ⟨h1, seed, bl, ht, mem, h2, { h3 with owns := ⟨h3.owns, h3.slt⟩, ownb := fun p hp => ⟨h3.ownb p hp, h3.lt hp⟩ }, h4⟩
/-- members in memory that is not a list's own -/
def MemsO (w : World) (own : Nat → Prop) (v : Value) (l : List Sc) : Prop :=
  ∃ A c, v = .slice A l.length c ∧ (0 < l.length → ∃ r, A = some ⟨r, 0, none⟩ ∧ ¬ own r ∧ r < w.heap.size ∧ ∀ j (h : j < l.length), w.cell? ⟨r, j * 2, none⟩ = some (.string l[j].1) ∧ w.cell? ⟨r, j * 2 + 1, none⟩ = some (.float .f64 l[j].2))
theorem Frm.cell {own : Nat → Prop} {w w' : World} (hf : Frm own w w') {b o : Nat} (hb : b < w.heap.size) (hn : ¬ own b) : w'.cell? ⟨b, o, none⟩ = w.cell? ⟨b, o, none⟩ := cel_same (hf.block b hb hn)
theorem MemsO.frm {w w' : World} {own : Nat → Prop} {v : Value} {l : List Sc} (h : MemsO w own v l) (hf : Frm own w w') : MemsO w' own v l := by
  obtain ⟨A, c, e, h⟩ := h
  refine ⟨A, c, e, fun h0 => ?_⟩
  obtain ⟨r, e1, h1, h2, h3⟩ := h h0
  exact ⟨r, e1, h1, Nat.lt_of_lt_of_le h2 hf.size, fun j hj => ⟨(hf.cell h2 h1).trans (h3 j hj).1, (hf.cell h2 h1).trans (h3 j hj).2⟩⟩
theorem MemsO.below {w w' : World} {own : Nat → Prop} {v : Value} {l : List Sc} (h : MemsO w own v l) (hb : Below w.heap.size w w') : MemsO w' own v l := h.frm (Frm.of_below hb)
theorem mems_memsO {w W : World} {own : Nat → Prop} {v : Value} {l : List Sc} (ho : ∀ r, own r → r < w.heap.size) (h : Mems W (fun r => w.heap.size ≤ r) v l) : MemsO W own v l := by
  obtain ⟨A, c, e, h⟩ := mems_at h
  refine ⟨A, c, e, fun h0 => ?_⟩
  obtain ⟨r, e1, h1, h2, h3⟩ := h h0
  have h1' : w.heap.size ≤ r := h1
  exact ⟨r, e1, fun k => by have := ho r k; omega, h2, h3⟩
theorem MemsO.get {w : World} {own : Nat → Prop} {A : Option Addr} {n c : Nat} {l : List Sc} (h : MemsO w own (.slice A n c) l) (k : Nat) (hk : k < l.length) : ∃ r, A = some ⟨r, 0, none⟩ ∧ r < w.heap.size ∧ ¬ own r ∧ w.cell? ⟨r, k * 2, none⟩ = some (.string l[k].1) ∧ w.cell? ⟨r, k * 2 + 1, none⟩ = some (.float .f64 l[k].2) := by
  obtain ⟨A', c', e, h⟩ := h
  cases e
  obtain ⟨r, e1, h0, h1, h2⟩ := h (by omega)
  exact ⟨r, e1, h1, h0, h2 k hk⟩
theorem nrm_self {x : Sc} (h : Cn x) : nrm x = x :=
  Prod.ext rfl (same_of (nrm_cn h.num h.lt).lt h.lt (nrm_key x) (nrm_cn h.num h.lt).pos h.pos)
theorem srt_one {L : List Sc} (h : Srt L) {i j : Nat} (hi : i < L.length) (hj : j < L.length) (e : L[i] = L[j]) : i = j := by
  rcases Nat.lt_trichotomy i j with k | k | k
  · have := h.lt k hj
    rw [e, less_irr (h.at_ hj).num] at this
    cases this
  · exact k
  · have := h.lt k hi
    rw [← e, less_irr (h.at_ hi).num] at this
    cases this
theorem rank_at {L : List Sc} (h : Srt L) {i : Nat} (hi : i < L.length) {r : Int} {ok : Bool} (hr : RankL L L[i] r ok) : ok = true ∧ r = (i : Int) := by
  have hc := h.at_ hi
  rcases hr with ⟨_, _, k, j, rfl, hj⟩ | ⟨k, _⟩
  · rw [nrm_self hc] at hj
    obtain ⟨hj1, hj2⟩ := List.getElem?_eq_some_iff.1 hj
    exact ⟨k, by rw [srt_one h hj1 hi hj2]⟩
  · exact absurd ⟨hc.num, by rw [nrm_self hc]; exact List.getElem_mem _⟩ k
/-- what is left of L when its first k have been looked at, of which g went -/
structure DelS (L : List Sc) (sel : Nat → Bool) (k g : Nat) (L' : List Sc) : Prop where
  mem : ∀ x, x ∈ L' ↔ x ∈ L ∧ ∀ j (h : j < L.length), j < k → sel j = true → x ≠ L[j]
  len : L'.length + g = L.length
  few : g ≤ k
theorem DelS.zero (L : List Sc) (sel : Nat → Bool) : DelS L sel 0 0 L := ⟨fun x => ⟨fun h => ⟨h, fun j _ hj => by omega⟩, fun h => h.1⟩, rfl, Nat.le_refl _⟩
theorem DelS.skip {L L' : List Sc} {sel : Nat → Bool} {k g : Nat} (h : DelS L sel k g L') (hs : sel k = false) : DelS L sel (k + 1) g L' := by
  refine ⟨fun x => ?_, h.len, by have := h.few; omega⟩
  rw [h.mem x]
  constructor
  · rintro ⟨h1, h2⟩
    refine ⟨h1, fun j hj hjk hsj => ?_⟩
    rcases Nat.lt_or_ge j k with a | a
    · exact h2 j hj a hsj
    · obtain rfl : j = k := by omega
      rw [hs] at hsj; cases hsj
  · rintro ⟨h1, h2⟩
    exact ⟨h1, fun j hj hjk => h2 j hj (by omega)⟩
theorem DelS.del {L L' L'' : List Sc} {sel : Nat → Bool} {k g : Nat} {ok : Bool} (hL : Srt L) (h : DelS L sel k g L') (hk : k < L.length) (hs : sel k = true) (hd : DelL L' L[k] ok L'') : ok = true ∧ DelS L sel (k + 1) (g + 1) L'' := by
  have hc := hL.at_ hk
  have hin : L[k] ∈ L' := (h.mem _).2 ⟨List.getElem_mem _, fun j hj hjk _ e => by have := srt_one hL hk hj e; omega⟩
  rcases hd with ⟨a, _⟩ | ⟨_, _, hok, hlen, hmem⟩
  · exact absurd ⟨hc.num, by rw [nrm_self hc]; exact hin⟩ a
  · refine ⟨hok, fun x => ?_, by have := h.len; omega, by have := h.few; omega⟩
    rw [hmem x, h.mem x, nrm_self hc]
    constructor
    · rintro ⟨⟨h1, h2⟩, h3⟩
      refine ⟨h1, fun j hj hjk hsj => ?_⟩
      rcases Nat.lt_or_ge j k with a | a
      · exact h2 j hj a hsj
      · obtain rfl : j = k := by omega
        exact h3
    · rintro ⟨h1, h2⟩
      exact ⟨⟨h1, fun j hj hjk => h2 j hj (by omega)⟩, h2 k hk (by omega) hs⟩
theorem DelS.gone {L L' L'' : List Sc} {sel : Nat → Bool} {k g : Nat} {ok : Bool} (hL : Srt L) (h : DelS L sel (k + 1) g L') (hk : k < L.length) (hs : sel k = true) (hd : DelL L' L[k] ok L'') : ok = false ∧ L'' = L' := by
  have hc := hL.at_ hk
  rcases hd with ⟨_, a, b⟩ | ⟨_, a, _⟩
  · exact ⟨a, b⟩
  · rw [nrm_self hc] at a
    exact absurd rfl (((h.mem _).1 a).2 k hk (by omega) hs)
end Go.Proofs.YtmlaackdcnpjmaaDoor.Skp
