/- Chapter 09: what the laws take, read as plain data; the table that the program lays. -/
import Derived.Test.YtmlaackdcnpjmaaDoorRows
import Derived.Test.YtmlaackdcnpjmaaDoorRead
import Derived.Test.YtmlaackdcnpjmaaDoorNew09
import Derived.Test.YtmlaackdcnpjmaaDoorTz09
import Derived.LaidMore
import Derived.Lib.LaidTab
namespace Go.Proofs.YtmlaackdcnpjmaaDoor.Skp
open Go.RowKit Go.Proofs.YtmlaackdcnpjmaaDoor.Rdg
section
variable {H : Type} {enc : TypeId × Value → H} {w : World} {held : Bool}
theorem one_of {cs : List Value} {o : Nat} {v : Value} (h : (cs.drop o).take 1 = [v]) : cs[o]? = some v := by
  have := congrArg (·[0]?) h
  simpa [List.getElem?_take, List.getElem?_drop] using this
theorem of_ats {cs vs : List Value} (h : cs.length = vs.length) (hv : ∀ (i : Nat) (v : Value), vs[i]? = some v → cs[i]? = some v) : cs = vs := by
  refine List.ext_getElem? fun i => ?_
  by_cases hi : i < vs.length
  · rw [List.getElem?_eq_getElem hi]
    exact hv i _ (List.getElem?_eq_getElem hi)
  · rw [List.getElem?_eq_none (by omega), List.getElem?_eq_none (by omega)]
theorem rd_text : Rd enc Tryd.prog w held 9 StrAt := rd_string Tryd.underlying9
def ScAt (p : Sc) (cs : List Value) : Prop := cs = [.string p.1, .float .f64 p.2] ∧ p.1.size ≤ 140737488351232 ∧ p.2 < 18446744073709551616
theorem rd_scored : Rd enc Tryd.prog w held 31 ScAt := by
  intro fuel cs x h hz
  obtain ⟨hl, hf⟩ := struct_field (α := ByteArray) Tryd.underlying31 h hz
  obtain ⟨_, hf2⟩ := struct_field (α := Nat) Tryd.underlying31 h hz
  obtain ⟨a, ha, ha2⟩ := hf 0 _ rfl 9 0 1 rfl rfl (by kernel_rfl) StrAt rd_text
  obtain ⟨b, hb, hb2⟩ := hf2 1 _ rfl 29 1 1 rfl rfl (by kernel_rfl) FltAt (rd_float Tryd.underlying29)
  have hl2 : cs.length = 2 := hl.trans (by kernel_rfl)
  refine ⟨(a, b), of_ats hl2 fun i v hv => ?_, ha2, hb2⟩
  match i, hv with
  | 0, hv => obtain rfl : Value.string a = v := by simpa using hv
             exact one_of ha
  | 1, hv => obtain rfl : Value.float .f64 b = v := by simpa using hv
             exact one_of hb
theorem rd_scoreds : Rd enc Tryd.prog w held 23 (SlAt w 2 ScAt) := rd_slice Tryd.underlying23 (by kernel_rfl) (by decide) (b := 24) (by kernel_rfl) (by decide) rd_scored
theorem scoreds_of {l : List Sc} {cs : List Value} (h : SlAt w 2 ScAt l cs) : ∃ v, cs = [v] ∧ MemsAt w w.heap.size v l ∧ ∀ t ∈ l, t.2 < 2 ^ 64 := by
  obtain ⟨A, c, rfl, hl, h⟩ := h
  refine ⟨_, rfl, ⟨A, c, rfl, fun h0 => ?_⟩, fun t ht => ?_⟩
  · obtain ⟨r, o, rfl, hr, h⟩ := h h0
    refine ⟨r, o, rfl, hr, fun j hj => ?_⟩
    obtain ⟨cs', ⟨rfl, _⟩, _, hc⟩ := h j hj
    exact ⟨by simpa using hc 0 _ rfl, hc 1 _ rfl⟩
  · obtain ⟨j, hj, rfl⟩ := List.getElem_of_mem ht
    obtain ⟨r, o, rfl, hr, h⟩ := h (by omega)
    obtain ⟨cs', ⟨_, _, h2⟩, _, _⟩ := h j hj
    exact h2
/-- two scores and two marks -/
def CutAt (c : (Nat × Nat) × (Bool × Bool)) (cs : List Value) : Prop := cs = [.float .f64 c.1.1, .float .f64 c.1.2, .bool c.2.1, .bool c.2.2]
theorem rd_cut : Rd enc Tryd.prog w held 41 CutAt := by
  intro fuel cs x h hz
  obtain ⟨hl, hf⟩ := struct_field (α := Nat) Tryd.underlying41 h hz
  obtain ⟨_, hf2⟩ := struct_field (α := Bool) Tryd.underlying41 h hz
  obtain ⟨a, ha, _⟩ := hf 0 _ rfl 29 0 1 rfl rfl (by kernel_rfl) FltAt (rd_float Tryd.underlying29)
  obtain ⟨b, hb, _⟩ := hf 1 _ rfl 29 1 1 rfl rfl (by kernel_rfl) FltAt (rd_float Tryd.underlying29)
  obtain ⟨c, hc⟩ := hf2 2 _ rfl 4 2 1 rfl rfl (by kernel_rfl) BoolAt (rd_bool Tryd.underlying4)
  obtain ⟨d, hd⟩ := hf2 3 _ rfl 4 3 1 rfl rfl (by kernel_rfl) BoolAt (rd_bool Tryd.underlying4)
  have hl2 : cs.length = 4 := hl.trans (by kernel_rfl)
  refine ⟨((a, b), (c, d)), of_ats hl2 fun i v hv => ?_⟩
  match i, hv with
  | 0, hv => obtain rfl : Value.float .f64 a = v := by simpa using hv
             exact one_of ha
  | 1, hv => obtain rfl : Value.float .f64 b = v := by simpa using hv
             exact one_of hb
  | 2, hv => obtain rfl : Value.bool c = v := by simpa using hv
             exact one_of hc
  | 3, hv => obtain rfl : Value.bool d = v := by simpa using hv
             exact one_of hd
end
def tabZs : List Int := [0, 1, 56, 2, 57, 49, 28, 3, 61, 58, 42, 50, 38, 29, 17, 4, 62, 47, 59, 36, 45, 43, 51, 22, 53, 39, 33, 30, 24, 18, 12, 5, 63, 55, 48, 27, 60, 41, 37, 16, 46, 35, 44, 21, 52, 32, 23, 11, 54, 26, 40, 15, 34, 20, 31, 10, 25, 14, 19, 9, 13, 8, 7, 6]
theorem gTab : Tryd.prog.globalNamed "math/bits.deBruijn64tab" = some 1 := by kernel_rfl
theorem gTabT : (Tryd.prog.globals[1]?).map (·.type) = some 78 := by kernel_rfl
abbrev laidTab : List (String × DataW Unit) := [("math/bits.deBruijn64tab", Rows.laid_math_bits_deBruijn64tab)]
theorem tab_of {W : World} (h : laidMetH Tryd.prog laidTab W) : Tab W := by
  rw [MakeChecks.laidMetH_plain _ _ _ (by kernel_rfl)] at h
  have hT : Lib.TabIs Tryd.prog W "math/bits.deBruijn64tab" .u8 tabZs := Lib.tabIs_of_head (rest := []) gTab gTabT Tryd.underlying78 Tryd.underlying5 (by kernel_rfl) (by kernel_rfl) h
  intro j hj
  have h2 := hT.cell gTab j hj
  have h3 : ∀ j, j < 64 → ∃ v : Nat, v < 64 ∧ tabZs.getD j 0 = (v : Int) := by
    intro j hj
    have hall : (List.range 64).all (fun j => decide (0 ≤ tabZs.getD j 0) && decide (tabZs.getD j 0 < 64)) = true := by decide
    have := List.all_eq_true.1 hall j (List.mem_range.2 hj)
    simp only [Bool.and_eq_true, decide_eq_true_eq] at this
    exact ⟨(tabZs.getD j 0).toNat, by omega, by omega⟩
  obtain ⟨v, hv, e⟩ := h3 j hj
  exact ⟨v, hv, by rw [h2, e]⟩
theorem door_met (os : Os) (args : Array Value) : laidMetH Tryd.prog laidTab ((World.doorLaid Tryd.prog 400 os).forCall (fun _ _ => 0) ⟨#[], args, []⟩).memory :=
  laidMetH_of_parts3 (fuel := 8) (laidMet_of_run' 8 (by kernel_rfl) (by kernel_rfl)) (by kernel_rfl) (by kernel_rfl)
end Go.Proofs.YtmlaackdcnpjmaaDoor.Skp
