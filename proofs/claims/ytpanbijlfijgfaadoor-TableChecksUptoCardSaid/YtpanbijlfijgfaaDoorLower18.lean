/- The walk of table.lower: each rune of the text, A to Z turned. -/
import Derived.Test.YtpanbijlfijgfaaDoorShelf18
import Derived.BigCall
import Derived.Lib.Hide
namespace Go.Proofs.YtpanbijlfijgfaaDoor.Low18
open Go.RowKit Go.Proofs.YtpanbijlfijgfaaDoor.Shf

/-- a rune, A to Z as a to z -/
def lowRune (r : Nat) : Nat := if 65 ≤ r ∧ r ≤ 90 then r + 32 else r
/-- the text from a place on -/
def lowFrom (s : ByteArray) : Nat → Nat → List UInt8
  | 0, _ => []
  | fuel + 1, pos => if pos < s.size then Lib.encodeRune (lowRune (Utf8.decode s pos).1) ++ lowFrom s fuel (pos + (Utf8.decode s pos).2) else []
def lowT (s : ByteArray) : List UInt8 := lowFrom s s.size 0

theorem width_pos (s : ByteArray) (pos : Nat) (h : pos < s.size) : 1 ≤ (Utf8.decode s pos).2 := by
  by_cases ha : (s[pos]'h).toNat < 128
  · rw [decode_ascii s pos h ha]
    exact Nat.le_refl _
  · exact (decode_high s pos h (by omega)).2
theorem lowFrom_end (s : ByteArray) (fuel pos : Nat) (h : ¬ pos < s.size) : lowFrom s fuel pos = [] := by
  cases fuel with
  | zero => rfl
  | succ f => simp [lowFrom, h]

set_option maxHeartbeats 4000000 in
set_option maxRecDepth 1000000 in
theorem lower_any (s : ByteArray) (w : World) (hs : s.size ≤ 35184372088832) :
    Calls Tryd.prog 55 #[.string s] w fun e w' => e = .returned (.string ⟨(lowT s).toArray⟩) ∧ Below w.heap.size w w' := by
  go_enter Tryd.func55, Tryd.ntmps55
  go_wp2
  go_loopw [5] (fun _ wr => ∃ (pos fuel : Nat) (acc : List UInt8), Lib.IsBuilderF 130 5 w.heap.size w.heap.size (Lib.byteCells acc) wr ∧ wr.heap[w.heap.size + 1]? = some (.stringIter s pos) ∧ Below w.heap.size w wr ∧ acc ++ lowFrom s fuel pos = lowT s ∧ s.size ≤ pos + fuel ∧ acc.length ≤ 4 * pos) (fun _ wr => s.size - wr.iterPos (w.heap.size + 1))
  case atStart =>
    refine ⟨0, s.size, [], (Lib.IsBuilderF.of (Lib.fresh_isBuilder 130 5 w)).alloc _, ?_, ((Below.refl _ w).alloc (Nat.le_refl _) _).alloc (by simp) _, rfl, by omega, by simp⟩
    have := World.iter_heap (w.alloc (.cells #[.pointer none, .slice none 0 0] 130)) s 0
    simpa using this
  case round =>
    obtain ⟨pos, fuel, acc, hI, hit, hbw, hacc, hfu, hal⟩ := hrel
    have hsz : w.heap.size + 1 < wr.heap.size := (Array.getElem?_eq_some_iff.1 hit).1
    by_cases hp : pos < s.size
    · have hnx : ∀ ty, (Instr.next (.pointer (some ⟨w.heap.size + 1, 0, none⟩)) true ty).run Tryd.prog wr = _ := fun ty => Lib.run_next_any_at wr (w.heap.size + 1) s pos ty hit hp
      have hwd := width_pos s pos hp
      have hd1 := decode_le s pos
      have hI2 := hI.iterAt hit (pos + (Utf8.decode s pos).2)
      have hit2 := Lib.iterAt_heap wr (w.heap.size + 1) s pos (pos + (Utf8.decode s pos).2) hit
      have hbw2 := Lib.below_iterAt hbw (k := w.heap.size + 1) (by omega) s (pos + (Utf8.decode s pos).2)
      have hsz2 : w.heap.size ≤ (wr.iterAt (w.heap.size + 1) s (pos + (Utf8.decode s pos).2)).heap.size := by rw [Lib.iterAt_size]; omega
      obtain ⟨f, rfl⟩ : ∃ f, fuel = f + 1 := ⟨fuel - 1, by omega⟩
      have hfr : lowFrom s (f + 1) pos = Lib.encodeRune (lowRune (Utf8.decode s pos).1) ++ lowFrom s f (pos + (Utf8.decode s pos).2) := by simp only [lowFrom, if_pos hp]
      obtain ⟨r, hr⟩ : ∃ r, r = (Utf8.decode s pos).1 := ⟨_, rfl⟩
      obtain ⟨wd, hwd'⟩ : ∃ r, r = (Utf8.decode s pos).2 := ⟨_, rfl⟩
      rw [← hr] at hnx hd1 hfr
      rw [← hwd'] at hnx hwd hI2 hit2 hbw2 hsz2 hfr
      clear hr hwd' hI hbw
      obtain ⟨q, hq⟩ : ∃ q : Nat, q = lowRune r := ⟨_, rfl⟩
      have hq1 : q ≤ 2147483647 := by rw [hq]; unfold lowRune; split <;> omega
      rw [← hq] at hfr
      have fin : ∀ W1, Lib.BuilderAtF 130 5 w.heap.size w.heap.size (.pointer (some ⟨w.heap.size, 0, none⟩)) (Lib.byteCells acc ++ Lib.runeCells (q : Int)) W1 → Below w.heap.size (wr.iterAt (w.heap.size + 1) s (pos + wd)) W1 →
          Lib.OthersKept 5 (some w.heap.size) (wr.iterAt (w.heap.size + 1) s (pos + wd)) W1 →
          ∃ (pos' fuel : Nat) (acc : List UInt8), Lib.IsBuilderF 130 5 w.heap.size w.heap.size (Lib.byteCells acc) W1 ∧ W1.heap[w.heap.size + 1]? = some (.stringIter s pos') ∧ Below w.heap.size w W1 ∧ acc ++ lowFrom s fuel pos' = lowT s ∧ s.size ≤ pos' + fuel ∧ acc.length ≤ 4 * pos' := by
        intro W1 h1 b1 k1
        have hl4 := Lib.runeCells_le (q : Int)
        rw [Lib.runeCells_length] at hl4
        refine ⟨pos + wd, f, acc ++ Lib.encodeRune (q : Int), ?_, k1.iter hit2 (by omega), hbw2.trans b1, ?_, by omega, by simp; omega⟩
        · rw [Lib.byteCells_append, Lib.byteCells_encodeRune]; exact Or.inr h1
        · rw [← hacc, hfr]; simp
      have HF := Lib.hid fin
      clear fin
      by_cases h65 : 65 ≤ r ∧ r ≤ 90
      · have hq2 : ((r : Int) + 32) = (q : Int) := by rw [hq]; unfold lowRune; rw [if_pos h65]; omega
        obtain ⟨h65, h90⟩ := h65
        clear hq hfr hacc
        go_wp2_with fail
        refine (write_rune w.heap.size w.heap.size _ (q : Int) (by omega) (by omega) _ hI2 (by rw [Lib.byteCells_length]; omega) hsz2).mono ?_
        rintro e W1 ⟨rfl, h1, b1, k1⟩
        go_wp2
        go_roundw
        case rel => exact HF.out W1 h1 b1 k1
        case measure =>
          simp only [World.iterPos, k1.iter hit2 (by omega), hit]
          omega
      · have hq2 : r = q := by rw [hq]; unfold lowRune; rw [if_neg h65]
        subst hq2
        clear hq hfr hacc
        have h65' : r < 65 ∨ 90 < r := by omega
        rcases h65' with h65' | h65'
        · go_wp2_with fail
          refine (write_rune w.heap.size w.heap.size _ (r : Int) (by omega) (by omega) _ hI2 (by rw [Lib.byteCells_length]; omega) hsz2).mono ?_
          rintro e W1 ⟨rfl, h1, b1, k1⟩
          go_wp2
          go_roundw
          case rel => exact HF.out W1 h1 b1 k1
          case measure =>
            simp only [World.iterPos, k1.iter hit2 (by omega), hit]
            omega
        · go_wp2_with fail
          refine (write_rune w.heap.size w.heap.size _ (r : Int) (by omega) (by omega) _ hI2 (by rw [Lib.byteCells_length]; omega) hsz2).mono ?_
          rintro e W1 ⟨rfl, h1, b1, k1⟩
          go_wp2
          go_roundw
          case rel => exact HF.out W1 h1 b1 k1
          case measure =>
            simp only [World.iterPos, k1.iter hit2 (by omega), hit]
            omega
    · have hnx : ∀ ty, (Instr.next (.pointer (some ⟨w.heap.size + 1, 0, none⟩)) true ty).run Tryd.prog wr = _ := fun ty => Lib.run_next_end_at wr (w.heap.size + 1) s pos ty hit hp
      go_wp2_with fail
      refine (Builder_String_any_k w.heap.size w.heap.size acc _ hI (by omega)).mono ?_
      rintro e W1 ⟨rfl, _, b1, _⟩
      go_wp2
      go_ret
      rw [lowFrom_end s fuel pos hp, List.append_nil] at hacc
      subst hacc
      exact ⟨rfl, hbw.trans b1⟩
end Go.Proofs.YtpanbijlfijgfaaDoor.Low18
