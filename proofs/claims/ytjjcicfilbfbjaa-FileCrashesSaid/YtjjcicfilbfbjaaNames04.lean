/- Names: the names of a disk's files, rising. -/
import Derived.Test.YtjjcicfilbfbjaaIter04
import Derived.Test.YtjjcicfilbfbjaaShort04
namespace Go.Proofs.Ytjjcicfilbfbjaa.Dsk
open Go.RowKit Go.Maps Go.Sort Go.Proofs.Ytjjcicfilbfbjaa.Pin Go.Proofs.Ytjjcicfilbfbjaa.Gon Go.Proofs.Ytjjcicfilbfbjaa.Mps

def namesOf (fs : List Fil) : List (List UInt8) := (fs.map (·.name.data.toList)).mergeSort leB
theorem map_owns {P : Program} {k : TypeId} (hk : P.underlying k = some .string) {w : World} {M : Nat} {ps : List (ByteArray × Value)} (h : MapAt w M ps) (hl : ps.length ≤ maxLen) (hs : ∀ p ∈ ps, p.1.size ≤ maxLen) :
    ∃ D : DataW Unit, w.ownsMap P k (fun _ => some (.nil, [])) M ps.length D ∧ Maps.size D = ps.length ∧ (strKeys D).Perm (ps.map (·.1.data.toList)) := by
  obtain ⟨es, clock, hb, he, hS⟩ := h
  have hlen : es.size = ps.length := by
    have := congrArg List.length he
    simpa using this
  have hrd : ∀ x ∈ es.toList, ∃ p ∈ ps, WideElems.rd P k (fun _ => some ((.nil : DataW Unit), [])) x = some (.string p.1.data.toList, .nil) ∧ x.key = .string p.1 := by
    intro x hx
    have hm : (x.key, x.val) ∈ es.toList.map (fun x => (x.key, x.val)) := List.mem_map.2 ⟨x, hx, rfl⟩
    rw [he] at hm
    obtain ⟨p, hp, e⟩ := List.mem_map.1 hm
    injection e with e1 e2
    refine ⟨p, hp, ?_, e1.symm⟩
    unfold WideElems.rd
    rw [← e1]
    have hsz := hs p hp
    simp [keyOf, hk, mapKey, hsz]
  have hrg : es.toList.map (WideElems.rg P k (fun _ => some ((.nil : DataW Unit), []))) = ps.map (fun p => (.string p.1.data.toList, .nil)) := by
    have h2 : es.toList.map (WideElems.rg P k (fun _ => some ((.nil : DataW Unit), []))) = (es.toList.map (fun x => (x.key, x.val))).map (fun y => match y.1 with | .string s => (.string s.data.toList, .nil) | _ => (.bool false, .nil)) := by
      rw [List.map_map]
      refine List.map_congr_left (fun x hx => ?_)
      obtain ⟨p, _, hr, hk⟩ := hrd x hx
      rw [WideElems.rg_of hr]
      simp [hk]
    rw [h2, he, List.map_map]
    rfl
  refine ⟨_, ⟨es, clock, hb, ⟨by omega, hS, fun x hx => ?_⟩, by omega, rfl⟩, ?_, ?_⟩
  · obtain ⟨p, _, hr, _⟩ := hrd x hx
    exact ⟨_, hr⟩
  · show (List.foldr DataW.insert [] (es.toList.map (WideElems.rg P k (fun _ => some ((.nil : DataW Unit), []))))).length = _
    rw [length_sorted, List.length_map]
    simpa using hlen
  · show (List.map (fun p => strOf p.1) (List.foldr DataW.insert [] _)).Perm _
    rw [hrg]
    refine ((WideShapes.sorted_perm _).map _).trans ?_
    rw [List.map_map]
    exact List.Perm.refl _
theorem names_any (g M N : Nat) (C U n : Int) (fs : List Fil) (w : World) (h : DiskAt w g M N C U n fs) (hl : fs.length ≤ 1000000) (hs : ∀ f ∈ fs, f.name.size ≤ 255) :
    Calls Try.prog 20 #[.pointer (some ⟨g, 0, none⟩)] w fun e w' => ∃ v, e = .returned v ∧ w'.ownsRow w.heap.size 9 1 v fs.length ((namesOf fs).map encStr) ∧ Below w.heap.size w w' := by
  obtain ⟨c0, c1, c2, c3, c4⟩ := h.gcell
  have HT := Lib.hid (there_any g M w c2)
  have hpl : (ents fs).length = fs.length := by simp [ents]
  obtain ⟨D, hown, hsz, hpm⟩ := map_owns (P := Try.prog) Try.underlying9 h.map (by unfold maxLen; omega) (fun p hp => by
    obtain ⟨f, hf, rfl⟩ := List.mem_map.1 hp
    have := hs f hf
    unfold maxLen
    show f.name.size ≤ _
    omega)
  rw [hpl] at hsz
  have hpm2 : (strKeys D).Perm (fs.map (·.name.data.toList)) := by
    have e : (ents fs).map (·.1.data.toList) = fs.map (·.name.data.toList) := by simp [ents]
    rw [← e]
    exact hpm
  have HK := Lib.hid (fun W => (callsIn_wide (n := 5)).1 (Itr.maps_Keys_32 (some M) W))
  have HS := Lib.hid ((callsIn_wide (n := 5)).1 (Itr.slices_Sorted_keys_31_32 M _ D _ w hown (by unfold maxLen; omega) (by omega)))
  have HP := Lib.hid hpm2
  clear hown hsz hpm hpm2 hpl h
  go_enter Try.func20, Try.ntmps20
  go_wp2_with fail
  refine HT.out.mono ?_
  rintro e w' ⟨rfl, rfl⟩
  go_wp2_with fail
  refine (HK.out _).mono ?_
  rintro e w' ⟨rfl, rfl⟩
  go_wp2_with fail
  refine HS.out.mono ?_
  rintro e w' ⟨v, ss, rfl, hS, hrow, hnil, hb⟩
  have HRow := Lib.hid hrow
  have HB := Lib.hid hb
  have HPS := Lib.hid hS
  clear hrow hb hS hnil
  go_wp2_with fail
  go_ret
  have hp3 : ss.Perm (fs.map (·.name.data.toList)) := HPS.out.trans HP.out
  have hlen : ss.length = fs.length := by rw [hp3.length_eq, List.length_map]
  have hrow := HRow.out
  rw [mergeSort_of_perm hp3, hlen] at hrow
  exact ⟨v, rfl, ownsRow_base_a hrow (by simp), ((Below.refl _ w).alloc (Nat.le_refl _) _).trans (HB.out.mono (by simp))⟩
end Go.Proofs.Ytjjcicfilbfbjaa.Dsk
