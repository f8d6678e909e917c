/- Bytes that lie in a block of the call's own: read, set, seen as a text. -/
import Derived.Test.YtpanbijlfijgfaaDoorProg
import Derived.WalkKit
import Derived.Laws.BytesArg
import Derived.Deep.Draws
namespace Go.Proofs.YtpanbijlfijgfaaDoor.Byt
open Go.RowKit

def Bytes (w : World) (g : Nat) (l : List UInt8) : Prop := ∀ j (h : j < l.length), w.cell? ⟨g, j, none⟩ = some (.int .u8 (l[j].toNat : Int)) ∧ w.frozen? ⟨g, j, none⟩ = false
theorem Bytes.set {w : World} {g : Nat} {l : List UInt8} (h : Bytes w g l) {q : Nat} (hq : q < l.length) (v : UInt8) : Bytes (w.setCell ⟨g, q, none⟩ (.int .u8 (v.toNat : Int))) g (l.set q v) := by
  intro j hj
  have hj' : j < l.length := by simpa using hj
  refine ⟨?_, by rw [World.frozen?_setCell]; exact (h j hj').2⟩
  by_cases e : q = j
  · subst e
    rw [World.cell?_setCell_same w _ _ (h q hq).1]
    simp
  · rw [World.cell?_setCell_other w _ _ _ (by intro e'; injection e' with _ e'; exact e e'), (h j hj').1]
    simp [e]
theorem Bytes.drewN {w : World} {g : Nat} {l : List UInt8} (h : Bytes w g l) (n : Nat) : Bytes (w.drewN n) g l := h
set_option maxRecDepth 100000 in
theorem Bytes.str {w : World} {g : Nat} {l : List UInt8} (h : Bytes w g l) (cap : Nat) :
    (convert 72 9 (.slice (some ⟨g, 0, none⟩) l.length cap)).run Tryd.prog w = .ok (.string ⟨l.toArray⟩) w := by
  have hc := run_convert_bytes_arg (P := Tryd.prog) w 72 5 Tryd.underlying72 Tryd.underlying5 g 0 l.length cap (l.map fun b => (b.toNat : Int)) (by simp) (fun i hi => by
    rw [Nat.zero_add, (h i hi).1]
    simp [List.getD, hi]) 9 Tryd.underlying9
  rw [hc]
  congr 2
  unfold strOfNums
  congr 1
  rw [List.map_map]
  congr 1
  conv => rhs; rw [← List.map_id l]
  apply List.map_congr_left
  intro b _
  simp
end Go.Proofs.YtpanbijlfijgfaaDoor.Byt
