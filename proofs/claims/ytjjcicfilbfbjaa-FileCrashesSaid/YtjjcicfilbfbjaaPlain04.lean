/- A disk's files as plain data: what a crash leaves. -/
import Derived.Test.YtjjcicfilbfbjaaNames04
namespace Go.Proofs.Ytjjcicfilbfbjaa.Dsk
open Go.RowKit Go.Maps Go.Sort Go.Proofs.Ytjjcicfilbfbjaa.Pin Go.Proofs.Ytjjcicfilbfbjaa.Gon Go.Proofs.Ytjjcicfilbfbjaa.Mps

/-- a file plainly: its name, its bytes, how many are durable -/
abbrev Abs := ByteArray × ByteArray × Nat
def Fil.abs (f : Fil) : Abs := (f.name, f.bytes, f.dur)
def tot (l : List Abs) : Nat := (l.map (·.2.1.size)).sum
def key (a : Abs) : List UInt8 := a.1.data.toList
def keptN (keep : List Int) (j : Nat) (b : ByteArray) (d : Nat) : Nat := if h : j < keep.length then d + (min (max keep[j] 0) ((b.size : Int) - (d : Int))).toNat else d
def crash1 (keep : List Int) (j : Nat) (a : Abs) : Abs := (a.1, cutB a.2.1 (keptN keep j a.2.1 a.2.2), keptN keep j a.2.1 a.2.2)
def crashed (ns : List (List UInt8)) (keep : List Int) (k : Nat) (l : List Abs) : List Abs := l.map fun a => if ns.idxOf (key a) < k then crash1 keep (ns.idxOf (key a)) a else a
def namesL (l : List Abs) : List (List UInt8) := (l.map key).mergeSort leB
def crashAll (keep : List Int) (l : List Abs) : List Abs := l.map fun a => crash1 keep ((namesL l).idxOf (key a)) a
theorem namesOf_abs (fs : List Fil) : namesOf fs = namesL (fs.map Fil.abs) := by
  unfold namesOf namesL
  rw [List.map_map]
  rfl
theorem keptN_le (keep : List Int) (j : Nat) (b : ByteArray) (d : Nat) (h : d ≤ b.size) : keptN keep j b d ≤ b.size ∧ d ≤ keptN keep j b d := by
  unfold keptN
  split
  · omega
  · omega
theorem key_inj {a b : Abs} (h : key a = key b) : a.1 = b.1 := by
  unfold key at h
  have h2 : a.1.data = b.1.data := by
    rw [← Array.toList_inj]
    exact h
  generalize a.1 = x at *
  generalize b.1 = y at *
  cases x; cases y
  congr 1
theorem mem_namesL {l : List Abs} {x : List UInt8} : x ∈ namesL l ↔ x ∈ l.map key := by
  unfold namesL
  exact (List.mergeSort_perm _ _).mem_iff
theorem namesL_nodup {l : List Abs} (h : (l.map (·.1)).Nodup) : (namesL l).Nodup := by
  unfold namesL
  rw [(List.mergeSort_perm _ _).nodup_iff]
  rw [List.nodup_iff_pairwise_ne, List.pairwise_map] at h ⊢
  exact h.imp (fun hne e => hne (key_inj e))
theorem namesL_length (l : List Abs) : (namesL l).length = l.length := by
  unfold namesL
  rw [List.length_mergeSort, List.length_map]
theorem crashed_zero (ns : List (List UInt8)) (keep : List Int) (l : List Abs) : crashed ns keep 0 l = l := by
  unfold crashed
  conv => rhs; rw [← List.map_id l]
  exact List.map_congr_left (fun a _ => by simp)
theorem crashed_all (keep : List Int) (l : List Abs) : crashed (namesL l) keep l.length l = crashAll keep l := by
  unfold crashed crashAll
  refine List.map_congr_left (fun a ha => ?_)
  have hm : key a ∈ namesL l := mem_namesL.2 (List.mem_map.2 ⟨a, ha, rfl⟩)
  have := List.idxOf_lt_length_of_mem hm
  rw [namesL_length] at this
  rw [if_pos this]
theorem crashed_names (ns : List (List UInt8)) (keep : List Int) (k : Nat) (l : List Abs) : (crashed ns keep k l).map (·.1) = l.map (·.1) := by
  unfold crashed
  rw [List.map_map]
  refine List.map_congr_left (fun a _ => ?_)
  show (if _ then crash1 keep _ a else a).1 = a.1
  split
  · rfl
  · rfl
theorem idxOf_key {ns : List (List UInt8)} (hn : ns.Nodup) {k : Nat} (hk : k < ns.length) : ns.idxOf ns[k] = k := List.Nodup.idxOf_getElem hn k hk
theorem crashed_step {ns : List (List UInt8)} {keep : List Int} {k : Nat} {l la lb : List Abs} {f : Abs} (hk : k < ns.length) (hn : ns.Nodup) (hl : (l.map (·.1)).Nodup) (h : crashed ns keep k l = la ++ f :: lb) (hf : key f = ns[k]) :
    crashed ns keep (k + 1) l = la ++ crash1 keep k f :: lb := by
  unfold crashed at h
  obtain ⟨l1, l2', e1, e2, e3⟩ := List.map_eq_append_iff.1 h
  obtain ⟨a, l2, e4, e5, e6⟩ := List.map_eq_cons_iff.1 e3
  subst e1 e4
  have hka : key a = ns[k] := by
    rw [← hf, ← e5]
    split
    · rfl
    · rfl
  have hia : ns.idxOf (key a) = k := by rw [hka]; exact idxOf_key hn hk
  have hfa : f = a := by
    rw [← e5, hia, if_neg (by omega)]
  subst hfa
  have other : ∀ x, (x ∈ l1 ∨ x ∈ l2) → ns.idxOf (key x) ≠ k := by
    intro x hx e
    have hkx : key x = key f := by
      by_cases hm : key x ∈ ns
      · have h3 : ns[ns.idxOf (key x)]'(List.idxOf_lt_length_of_mem hm) = key x := List.getElem_idxOf _
        rw [← h3, hka]
        congr 1
      · have := List.idxOf_eq_length hm
        omega
    have hne := key_inj hkx
    simp only [List.map_append, List.map_cons] at hl
    rw [List.nodup_append] at hl
    obtain ⟨_, h4, h5⟩ := hl
    rw [List.nodup_cons] at h4
    rcases hx with hx | hx
    · exact h5 x.1 (List.mem_map.2 ⟨x, hx, rfl⟩) f.1 (by simp) hne
    · exact h4.1 (List.mem_map.2 ⟨x, hx, hne⟩)
  unfold crashed
  rw [List.map_append, List.map_cons]
  congr 1
  · rw [← e2]
    refine List.map_congr_left (fun x hx => ?_)
    have := other x (.inl hx)
    by_cases h1 : ns.idxOf (key x) < k
    · rw [if_pos h1, if_pos (by omega)]
    · rw [if_neg h1, if_neg (by omega)]
  · congr 1
    · rw [hia, if_pos (by omega)]
    · rw [← e6]
      refine List.map_congr_left (fun x hx => ?_)
      have := other x (.inr hx)
      by_cases h1 : ns.idxOf (key x) < k
      · rw [if_pos h1, if_pos (by omega)]
      · rw [if_neg h1, if_neg (by omega)]
/-- the file of a name -/
theorem crashed_find {ns : List (List UInt8)} {keep : List Int} {k j : Nat} {l : List Abs} (hj : j < ns.length) (hm : ∀ x ∈ ns, x ∈ l.map key) : ∃ f ∈ crashed ns keep k l, key f = ns[j] := by
  obtain ⟨a, ha, e⟩ := List.mem_map.1 (hm ns[j] (List.getElem_mem _))
  refine ⟨_, List.mem_map.2 ⟨a, ha, rfl⟩, ?_⟩
  rw [← e]
  split
  · rfl
  · rfl
theorem tot_append (a b : List Abs) : tot (a ++ b) = tot a + tot b := by simp [tot]
theorem tot_cons (a : Abs) (b : List Abs) : tot (a :: b) = a.2.1.size + tot b := by simp [tot]
theorem tot_split (a b : List Abs) (f : Abs) : tot (a ++ f :: b) = tot a + f.2.1.size + tot b := by rw [tot_append, tot_cons]; omega
theorem mem_split {α : Type} {l : List α} {x : α} (h : x ∈ l) : ∃ a b, l = a ++ x :: b := List.append_of_mem h
end Go.Proofs.Ytjjcicfilbfbjaa.Dsk
