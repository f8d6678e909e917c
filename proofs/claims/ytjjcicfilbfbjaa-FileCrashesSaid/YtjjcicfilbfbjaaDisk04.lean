/- A disk that is there: its blocks, its files; the closures that say whether a write may be done. -/
import Derived.Test.YtjjcicfilbfbjaaTwin04
import Derived.Test.YtjjcicfilbfbjaaMapS
import Derived.Lib.AppendStr
import Derived.Deep.WholeRow
import Derived.Laws.BytesArg
namespace Go.Proofs.Ytjjcicfilbfbjaa.Dsk
open Go.RowKit Go.Proofs.Ytjjcicfilbfbjaa.Pin Go.Proofs.Ytjjcicfilbfbjaa.Gon Go.Proofs.Ytjjcicfilbfbjaa.Mps

/-- a file: its name, its content's block, its slice, its bytes, how many are durable -/
structure Fil where
  name : ByteArray
  cb : Nat
  sl : Value
  bytes : ByteArray
  dur : Nat
def Fil.own (f : Fil) : List Nat := f.cb :: f.sl.ownBlock.toList
def FileAt (w : World) (f : Fil) : Prop := w.heap[f.cb]? = some (.cells #[f.sl, .int .i64 (f.dur : Int)] 66 (0, 0)) ∧ w.ownsRow 0 5 1 f.sl f.bytes.size (Lib.strCells f.bytes)
abbrev wrV (N : Nat) : Value := .func (.func 29) #[] #[.pointer (some ⟨N, 0, none⟩)]
abbrev cnV (N : Nat) : Value := .func (.func 28) #[] #[.pointer (some ⟨N, 0, none⟩)]
def ents (fs : List Fil) : List (ByteArray × Value) := fs.map fun f => (f.name, .pointer (some ⟨f.cb, 0, none⟩))
def owns (g M N : Nat) (fs : List Fil) : List Nat := g :: M :: N :: fs.flatMap Fil.own
/-- the disk at block g, of capacity C, of which U are used, with n writes to go -/
structure DiskAt (w : World) (g M N : Nat) (C U n : Int) (fs : List Fil) : Prop where
  disk : w.heap[g]? = some (.cells #[.int .i64 C, .int .i64 U, .map (some M), wrV N, cnV N] 58 (0, 0))
  count : w.heap[N]? = some (.cells #[.int .i64 n] 3 (0, 0))
  map : MapAt w M (ents fs)
  files : ∀ f ∈ fs, FileAt w f
  apart : (owns g M N fs).Nodup

theorem can_yes (N : Nat) (n : Int) (w : World) (h : w.heap[N]? = some (.cells #[.int .i64 n] 3 (0, 0))) (hn : ¬ n = 0) :
    Calls Try.prog 28 #[.pointer (some ⟨N, 0, none⟩)] w fun e w' => e = .returned (.bool true) ∧ w = w' := by
  have hc : w.cell? ⟨N, 0, none⟩ = some (.int .i64 n) := by rw [Lib.cell_of_heap h]; rfl
  have hq : (n != 0) = true := by simpa using hn
  clear h
  go_enter Try.func28, Try.ntmps28
  go_wp2
  go_ret
  exact ⟨rfl, rfl⟩
theorem can_no (N : Nat) (w : World) (h : w.heap[N]? = some (.cells #[.int .i64 0] 3 (0, 0))) :
    Calls Try.prog 28 #[.pointer (some ⟨N, 0, none⟩)] w fun e w' => e = .returned (.bool false) ∧ w = w' := by
  have hc : w.cell? ⟨N, 0, none⟩ = some (.int .i64 0) := by rw [Lib.cell_of_heap h]; rfl
  clear h
  go_enter Try.func28, Try.ntmps28
  go_wp2
  go_ret
  exact ⟨rfl, rfl⟩
/-- a write is done -/
def nextn (n : Int) : Int := if 0 < n then n - 1 else n
theorem write_yes (N : Nat) (n : Int) (w : World) (h : w.heap[N]? = some (.cells #[.int .i64 n] 3 (0, 0))) (hn : ¬ n = 0) (h64 : n < 9223372036854775808) :
    Calls Try.prog 29 #[.pointer (some ⟨N, 0, none⟩)] w fun e w' => e = .returned (.bool true) ∧ w'.heap[N]? = some (.cells #[.int .i64 (nextn n)] 3 (0, 0)) ∧ OnlyMap w w' N := by
  have hc : w.cell? ⟨N, 0, none⟩ = some (.int .i64 n) := by rw [Lib.cell_of_heap h]; rfl
  have hf : w.frozen? ⟨N, 0, none⟩ = false := by simp [World.frozen?, h]
  have H := Lib.hid h
  clear h
  by_cases hp : 0 < n
  · have hq : decide (0 < n) = true := by simpa using hp
    have hw : IntKind.i64.wrap (n - 1) = n - 1 := by rw [IntKind.wrap_i64]; omega
    go_enter Try.func29, Try.ntmps29
    go_wp2
    go_ret
    refine ⟨rfl, ?_, ⟨rfl, rfl, rfl, by simp [World.setCell], fun r hr => Below.heap_setCell _ _ _ _ hr⟩⟩
    rw [heap_setCell_same w N 0 _ _ _ H.out]
    unfold nextn
    rw [if_pos hp]
    rfl
  · have hq : decide (0 < n) = false := by simpa using hp
    have hm : n < 0 := by omega
    go_enter Try.func29, Try.ntmps29
    go_wp2
    go_ret
    refine ⟨rfl, ?_, ⟨rfl, rfl, rfl, rfl, fun r hr => rfl⟩⟩
    rw [H.out]
    unfold nextn
    rw [if_neg (by omega)]
theorem write_no (N : Nat) (w : World) (h : w.heap[N]? = some (.cells #[.int .i64 0] 3 (0, 0))) :
    Calls Try.prog 29 #[.pointer (some ⟨N, 0, none⟩)] w fun e w' => e = .returned (.bool false) ∧ w = w' := by
  have hc : w.cell? ⟨N, 0, none⟩ = some (.int .i64 0) := by rw [Lib.cell_of_heap h]; rfl
  clear h
  go_enter Try.func29, Try.ntmps29
  go_wp2
  go_ret
  exact ⟨rfl, rfl⟩
theorem there_any (g M : Nat) (w : World) (h : w.cell? ⟨g, 2, none⟩ = some (.map (some M))) : Calls Try.prog 24 #[.pointer (some ⟨g, 0, none⟩)] w fun e w' => e = .returned (.bool false) ∧ w = w' := by
  have qM := fun (w : World) (r : Option Nat) => run_eql_map_nil (P := Try.prog) w 56 _ _ r Try.underlying56
  go_enter Try.func24, Try.ntmps24
  go_wp2
  go_ret
  exact ⟨rfl, rfl⟩
theorem may_yes (s : ByteArray) (w : World) (h1 : 0 < s.size) (h2 : s.size ≤ 255) : Calls Try.prog 25 #[.string s] w fun e w' => e = .returned (.bool true) ∧ w = w' := by
  have hne : s.toList.isEmpty = false := by
    rw [ByteArray.toList_eq]
    cases hq : s.data.toList with
    | nil => have : s.data.toList.length = s.size := by rw [Array.length_toList]; rfl
             rw [hq] at this; simp at this; omega
    | cons a b => rfl
  have hle : (s.size : Int) ≤ 255 := by omega
  go_enter Try.func25, Try.ntmps25
  go_wp2
  go_ret
  exact ⟨rfl, rfl⟩
/-- what the map has for a name -/
theorem seek_none {nm : ByteArray} : ∀ {fs : List Fil} {i : Nat}, (∀ f ∈ fs, f.name ≠ nm) → seek nm (ents fs) i = none
  | [], _, _ => rfl
  | f :: fs, i, h => by
    have h1 : (nm == f.name) = false := by
      cases hq : (nm == f.name) with
      | false => rfl
      | true => exact absurd ((MapKept.bytes_beq _ _).1 hq).symm (h f (by simp))
    show (if (nm == f.name) = true then _ else seek nm (ents fs) (i + 1)) = none
    rw [h1]
    exact seek_none (fun f hf => h f (by simp [hf]))
theorem seek_some {nm : ByteArray} : ∀ {fs : List Fil} {i : Nat} {f : Fil}, f ∈ fs → f.name = nm → (fs.map (·.name)).Nodup → ∃ j, seek nm (ents fs) i = some (j, .pointer (some ⟨f.cb, 0, none⟩))
  | g :: fs, i, f, h, hn, hd => by
    simp only [List.map_cons, List.nodup_cons] at hd
    show ∃ j, (if (nm == g.name) = true then some (i, Value.pointer (some ⟨g.cb, 0, none⟩)) else seek nm (ents fs) (i + 1)) = _
    rcases List.mem_cons.1 h with rfl | h
    · have h1 : (nm == f.name) = true := (MapKept.bytes_beq _ _).2 hn.symm
      rw [h1]
      exact ⟨i, rfl⟩
    · have h1 : (nm == g.name) = false := by
        cases hq : (nm == g.name) with
        | false => rfl
        | true =>
          have e := (MapKept.bytes_beq _ _).1 hq
          exact absurd (List.mem_map.2 ⟨f, h, by rw [hn, e]⟩) hd.1
      rw [h1]
      exact seek_some h hn hd.2
theorem zero_content (w : World) : (zeroValue 62).run Try.prog w = .ok (.pointer none) w := by kernel_rfl
theorem DiskAt.gcell {w : World} {g M N : Nat} {C U n : Int} {fs : List Fil} (h : DiskAt w g M N C U n fs) : w.cell? ⟨g, 0, none⟩ = some (.int .i64 C) ∧ w.cell? ⟨g, 1, none⟩ = some (.int .i64 U) ∧ w.cell? ⟨g, 2, none⟩ = some (.map (some M)) ∧ w.cell? ⟨g, 3, none⟩ = some (wrV N) ∧ w.cell? ⟨g, 4, none⟩ = some (cnV N) := by
  refine ⟨?_, ?_, ?_, ?_, ?_⟩ <;> (rw [Lib.cell_of_heap h.disk]; rfl)
theorem find_yes (g M N : Nat) (C U n : Int) (fs : List Fil) (f : Fil) (w : World) (h : DiskAt w g M N C U n fs) (hf : f ∈ fs) (hd : (fs.map (·.name)).Nodup) :
    Calls Try.prog 26 #[.pointer (some ⟨g, 0, none⟩), .string f.name] w fun e w' => e = .returned (.tuple #[.pointer (some ⟨f.cb, 0, none⟩), .int .i64 0]) ∧ w = w' := by
  obtain ⟨_, _, h2, _, _⟩ := h.gcell
  obtain ⟨j, hs⟩ := seek_some (i := 0) hf rfl hd
  have hl := fun w (hm : MapAt w M (ents fs)) => look_ok (w := w) (P := Try.prog) Try.underlying56 Try.underlying9 (zero_content w) hm f.name
  rw [hs] at hl
  have hl' := hl w h.map
  have HT := Lib.hid (there_any g M w h2)
  clear hl hs h hf hd
  go_enter Try.func26, Try.ntmps26
  go_wp2_with fail
  refine HT.out.mono ?_
  rintro e w' ⟨rfl, rfl⟩
  go_wp2_with fail
  go_ret2
  exact ⟨rfl, rfl⟩
theorem find_no (g M N : Nat) (C U n : Int) (fs : List Fil) (nm : ByteArray) (w : World) (h : DiskAt w g M N C U n fs) (hn : ∀ f ∈ fs, f.name ≠ nm) :
    Calls Try.prog 26 #[.pointer (some ⟨g, 0, none⟩), .string nm] w fun e w' => e = .returned (.tuple #[.pointer none, .int .i64 6]) ∧ w = w' := by
  obtain ⟨_, _, h2, _, _⟩ := h.gcell
  have hl := fun w (hm : MapAt w M (ents fs)) => look_ok (w := w) (P := Try.prog) Try.underlying56 Try.underlying9 (zero_content w) hm nm
  rw [seek_none hn] at hl
  have hl' := hl w h.map
  have HT := Lib.hid (there_any g M w h2)
  clear hl h hn
  go_enter Try.func26, Try.ntmps26
  go_wp2_with fail
  refine HT.out.mono ?_
  rintro e w' ⟨rfl, rfl⟩
  go_wp2_with fail
  go_ret2
  exact ⟨rfl, rfl⟩
theorem str_nums (b : ByteArray) : strOfNums (b.data.toList.map fun x => (x.toNat : Int)) = b := by
  obtain ⟨⟨l⟩⟩ := b
  unfold strOfNums
  congr 1
  rw [List.map_map]
  congr 1
  conv => rhs; rw [← List.map_id l]
  apply List.map_congr_left
  intro b _
  simp
theorem conv_nil (w : World) : (convert 64 9 (.slice none 0 0)).run Try.prog w = .ok (.string ⟨#[]⟩) w := by kernel_rfl
theorem conv_row {w : World} {v : Value} {b : ByteArray} (h : w.ownsRow 0 5 1 v b.size (Lib.strCells b)) : (convert 64 9 v).run Try.prog w = .ok (.string b) w := by
  rcases h.2 with ⟨rfl, h0⟩ | ⟨g, cap, cur, rfl, _, hg, _, _, _, _⟩
  · have hz : b.size = 0 := h0
    have hb : b = ⟨#[]⟩ := by
      obtain ⟨⟨l⟩⟩ := b
      have : l.length = 0 := hz
      rw [List.eq_nil_of_length_eq_zero this]
    rw [hb]
    exact conv_nil w
  · have hc := run_convert_bytes_arg (P := Try.prog) w 64 5 Try.underlying64 Try.underlying5 g 0 b.size cap (b.data.toList.map fun x => (x.toNat : Int)) (by rw [List.length_map, Array.length_toList]; rfl) (fun i hi => by
      have hi2 : i < b.data.toList.length := by rw [Array.length_toList]; exact hi
      have h3 := h.cells (g := g) rfl i (.int .u8 (b.data.toList[i].toNat : Int)) (by unfold Lib.strCells; rw [List.getElem?_map, List.getElem?_eq_getElem hi2]; rfl)
      simp only [Addr.add_lit, Nat.zero_add] at h3 ⊢
      rw [h3]
      simp only [List.getD, List.getElem?_map, List.getElem?_eq_getElem hi2, Option.map_some, Option.getD_some]) 9 Try.underlying9
    rw [hc, str_nums]
theorem read_yes (g M N : Nat) (C U n : Int) (fs : List Fil) (f : Fil) (w : World) (h : DiskAt w g M N C U n fs) (hf : f ∈ fs) (hd : (fs.map (·.name)).Nodup) :
    Calls Try.prog 13 #[.pointer (some ⟨g, 0, none⟩), .string f.name] w fun e w' => e = .returned (.tuple #[.string f.bytes, .int .i64 0]) ∧ w = w' := by
  have HF := Lib.hid (find_yes g M N C U n fs f w h hf hd)
  obtain ⟨hc, ho⟩ := h.files f hf
  have c0 : w.cell? ⟨f.cb, 0, none⟩ = some f.sl := by rw [Lib.cell_of_heap hc]; rfl
  have hcv := conv_row ho
  clear h hf hd hc ho
  go_enter Try.func13, Try.ntmps13
  go_wp2_with fail
  refine HF.out.mono ?_
  rintro e w' ⟨rfl, rfl⟩
  go_wp2_with fail
  go_ret2
  exact ⟨rfl, rfl⟩
theorem read_no (g M N : Nat) (C U n : Int) (fs : List Fil) (nm : ByteArray) (w : World) (h : DiskAt w g M N C U n fs) (hn : ∀ f ∈ fs, f.name ≠ nm) :
    Calls Try.prog 13 #[.pointer (some ⟨g, 0, none⟩), .string nm] w fun e w' => e = .returned (.tuple #[.string ⟨#[]⟩, .int .i64 6]) ∧ w = w' := by
  have HF := Lib.hid (find_no g M N C U n fs nm w h hn)
  clear h hn
  go_enter Try.func13, Try.ntmps13
  go_wp2_with fail
  refine HF.out.mono ?_
  rintro e w' ⟨rfl, rfl⟩
  go_wp2_with fail
  go_ret2
  exact ⟨rfl, rfl⟩
end Go.Proofs.Ytjjcicfilbfbjaa.Dsk
