/- Chapter 07: a row of texts, a script that came in. -/
import Derived.Test.YtnoalklbgncajaaDoorDal07
import Derived.Test.YtnoalklbgncajaaDoorAr07
namespace Go.Proofs.YtnoalklbgncajaaDoor.Dct
open Go Go.MapKept Go.RowKit Go.Proofs.YtnoalklbgncajaaDoor.Pin Go.Proofs.YtnoalklbgncajaaDoor.Mps Go.Proofs.YtnoalklbgncajaaDoor.Bok Go.Proofs.YtnoalklbgncajaaDoor.Uw Go.Proofs.YtnoalklbgncajaaDoor.Sip
/-- texts that came in -/
def TxAt (w : World) (A : Option Addr) (ks : List ByteArray) : Prop := ∀ j (h : j < ks.length), ∃ g o, A = some ⟨g, o, none⟩ ∧ g < w.heap.size ∧ w.cell? ⟨g, o + j, none⟩ = some (.string ks[j])
theorem TxAt.below {w w' : World} {A : Option Addr} {ks : List ByteArray} (h : TxAt w A ks) (hb : Below w.heap.size w w') : TxAt w' A ks := fun j hj => by
  obtain ⟨g, o, e, h1, h2⟩ := h j hj
  exact ⟨g, o, e, Nat.lt_of_lt_of_le h1 hb.size, (hb.cell (p := ⟨g, _, none⟩) h1).trans h2⟩
/-- an op of a script: its kind, its key, its number, its cursor -/
abbrev OpT := Nat × ByteArray × Int × Value
def OpsAt (w : World) (A : Option Addr) (ts : List OpT) : Prop := ∀ j (h : j < ts.length), ∃ r o, A = some ⟨r, o, none⟩ ∧ r < w.heap.size ∧ w.cell? ⟨r, o + j * 4, none⟩ = some (.int .u8 (ts[j].1 : Int)) ∧ w.cell? ⟨r, o + j * 4 + 1, none⟩ = some (.string ts[j].2.1) ∧ w.cell? ⟨r, o + j * 4 + 2, none⟩ = some (.int .i64 ts[j].2.2.1) ∧ w.cell? ⟨r, o + j * 4 + 3, none⟩ = some ts[j].2.2.2
theorem OpsAt.below {w w' : World} {A : Option Addr} {ts : List OpT} (h : OpsAt w A ts) (hb : Below w.heap.size w w') : OpsAt w' A ts := fun j hj => by
  obtain ⟨r, o, e, h1, h2, h3, h4, h5⟩ := h j hj
  exact ⟨r, o, e, Nat.lt_of_lt_of_le h1 hb.size, (hb.cell (p := ⟨r, _, none⟩) h1).trans h2, (hb.cell (p := ⟨r, _, none⟩) h1).trans h3, (hb.cell (p := ⟨r, _, none⟩) h1).trans h4, (hb.cell (p := ⟨r, _, none⟩) h1).trans h5⟩
set_option maxHeartbeats 2000000 in
set_option maxRecDepth 100000 in
theorem ops_any {w : World} {A : Option Addr} {c : Nat} (ts : List OpT) (hc : OpsAt w A ts) (hl : ts.length ≤ 281474976710656) :
    Calls Tryd.prog 5 #[.slice A ts.length c] w fun e w' => (∃ b, e = .returned (.bool b)) ∧ w = w' := by
  have HC := Lib.hid hc
  clear hc
  go_enter Tryd.func5, Tryd.ntmps5
  go_wp2_with fail
  go_loop [3, 4] (fun v i => ∃ (k : Nat) (x : Int), k ≤ ts.length ∧ i = .int .i64 (k : Int) ∧ v = .int .i64 x) (fun _ i => ts.length - (intOf i).toNat)
  case atStart => exact ⟨0, 0, Nat.zero_le _, rfl, rfl⟩
  case round =>
    obtain ⟨k, x, hk, rfl, rfl⟩ := hrel
    by_cases hlt : (k : Int) < (ts.length : Int)
    · have hkl : k < ts.length := by omega
      obtain ⟨r, o, rfl, hr, hck0, hck, hck2, hck3⟩ := HC.out k hkl
      obtain ⟨y, hy⟩ : ∃ y, y = ts[k].2.1 := ⟨_, rfl⟩
      rw [← hy] at hck
      clear hy hck0 hck2 hck3
      obtain ⟨q, hq⟩ : ∃ q, q = wrap64 (wrap64 (x + 1) + (y.size : Int)) := ⟨_, rfl⟩
      by_cases hb : 1048576 < q
      · have hd : decide (1048576 < wrap64 (wrap64 (x + 1) + (y.size : Int))) = true := by rw [← hq]; exact decide_eq_true hb
        go_wp2_with fail
        go_ret
        exact ⟨.inr rfl, rfl⟩
      · have hd : decide (1048576 < wrap64 (wrap64 (x + 1) + (y.size : Int))) = false := by rw [← hq]; exact decide_eq_false hb
        go_wp2_with fail
        exact ⟨⟨k + 1, _, by omega, by go_num, rfl⟩, by simp [intOf]; omega⟩
    · by_cases h5 : (5000 : Int) < (ts.length : Int)
      · go_wp2_with fail
        go_ret
        exact ⟨.inr rfl, rfl⟩
      · go_wp2_with fail
        go_ret
        exact ⟨.inl rfl, rfl⟩
end Go.Proofs.YtnoalklbgncajaaDoor.Dct
