/- Chapter 07: sizes, whatever they are; a row of texts that came in. -/
import Derived.Test.YtnoalklbgncajaaDal07
import Derived.Test.YtnoalklbgncajaaAr07
namespace Go.Proofs.Ytnoalklbgncajaa.Dct
open Go Go.MapKept Go.RowKit Go.Proofs.Ytnoalklbgncajaa.Pin Go.Proofs.Ytnoalklbgncajaa.Mps Go.Proofs.Ytnoalklbgncajaa.Bok Go.Proofs.Ytnoalklbgncajaa.Uw Go.Proofs.Ytnoalklbgncajaa.Sip
/-- texts that came in -/
def TxAt (w : World) (A : Option Addr) (ks : List ByteArray) : Prop := ∀ j (h : j < ks.length), ∃ g o, A = some ⟨g, o, none⟩ ∧ g < w.heap.size ∧ w.cell? ⟨g, o + j, none⟩ = some (.string ks[j])
theorem TxAt.below {w w' : World} {A : Option Addr} {ks : List ByteArray} (h : TxAt w A ks) (hb : Below w.heap.size w w') : TxAt w' A ks := fun j hj => by
  obtain ⟨g, o, e, h1, h2⟩ := h j hj
  exact ⟨g, o, e, Nat.lt_of_lt_of_le h1 hb.size, (hb.cell (p := ⟨g, _, none⟩) h1).trans h2⟩
theorem wrap_in (x : Int) : -9223372036854775808 ≤ wrap64 x ∧ wrap64 x ≤ 9223372036854775807 := by
  unfold wrap64
  omega
set_option maxHeartbeats 2000000 in
set_option maxRecDepth 100000 in
theorem tsize_any {w : World} {A : Option Addr} {c : Nat} (ks : List ByteArray) (hc : TxAt w A ks) (hl : ks.length ≤ 281474976710656) :
    Calls Try.prog 7 #[.slice A ks.length c] w fun e w' => (∃ x : Int, e = .returned (.int .i64 x) ∧ -9223372036854775808 ≤ x ∧ x ≤ 9223372036854775807) ∧ w = w' := by
  have HC := Lib.hid hc
  clear hc
  go_enter Try.func7, Try.ntmps7
  go_wp2_with fail
  go_loop [3, 4] (fun v i => ∃ (k : Nat) (x : Int), k ≤ ks.length ∧ i = .int .i64 (k : Int) ∧ v = .int .i64 x ∧ Hid (-9223372036854775808 ≤ x ∧ x ≤ 9223372036854775807)) (fun _ i => ks.length - (intOf i).toNat)
  case atStart => exact ⟨0, ks.length, Nat.zero_le _, rfl, rfl, Lib.hid ⟨by omega, by omega⟩⟩
  case round =>
    obtain ⟨k, x, hk, rfl, rfl, HX⟩ := hrel
    by_cases hlt : (k : Int) < (ks.length : Int)
    · by_cases hx : x ≤ 1048576
      · have hkl : k < ks.length := by omega
        obtain ⟨r, o, rfl, hr, hck⟩ := HC.out k hkl
        obtain ⟨y, hy⟩ : ∃ y, y = ks[k] := ⟨_, rfl⟩
        rw [← hy] at hck
        clear hy
        go_wp2_with fail
        exact ⟨⟨k + 1, wrap64 (x + (y.size : Int)), by omega, by go_num, rfl, Lib.hid (wrap_in _)⟩, by simp [intOf]; omega⟩
      · have hd : decide (x ≤ 1048576) = false := by simpa using hx
        go_wp2_with fail
        go_ret
        exact ⟨⟨x, rfl, HX.out⟩, rfl⟩
    · go_wp2_with fail
      go_ret
      exact ⟨⟨x, rfl, HX.out⟩, rfl⟩
set_option maxHeartbeats 400000 in
set_option maxRecDepth 100000 in
theorem beyond_one (x : Int) (h0 : -9223372036854775808 ≤ x) (h1 : x ≤ 9223372036854775807) (c g : Nat) (w : World) (hc : w.cell? ⟨g, 0, none⟩ = some (.int .i64 x)) :
    Calls Try.prog 6 #[.slice (some ⟨g, 0, none⟩) 1 c] w fun e w' => (∃ b, e = .returned (.bool b)) ∧ w = w' := by
  have HC := Lib.hid hc
  clear hc
  go_enter Try.func6, Try.ntmps6
  go_wp2
  go_loop [3, 4] (fun v i => ∃ (k : Nat) (n : Int), k ≤ 1 ∧ i = .int .i64 k ∧ v = .int .i64 n ∧ (k = 0 → n = 0)) (fun _ i => 1 - (intOf i).toNat)
  case atStart => exact ⟨0, 0, by omega, rfl, rfl, fun _ => rfl⟩
  case round =>
    obtain ⟨k, n, hk, rfl, rfl, hn⟩ := hrel
    by_cases hlt : k < 1
    · obtain rfl : k = 0 := by omega
      obtain rfl := hn rfl
      have hcell := HC.out
      go_wp2
      · go_ret
        exact ⟨.inr rfl, rfl⟩
      · exact ⟨⟨1, x, by omega, by go_num, by simp, fun h => by omega⟩, by simp [intOf]⟩
    · obtain rfl : k = 1 := by omega
      go_wp2
      go_ret
      exact ⟨.inl rfl, rfl⟩
/-- an op of a script: its kind, its key, its number, its cursor -/
abbrev OpT := Nat × ByteArray × Int × Value
def OpsAt (w : World) (A : Option Addr) (ts : List OpT) : Prop := ∀ j (h : j < ts.length), ∃ r o, A = some ⟨r, o, none⟩ ∧ r < w.heap.size ∧ w.cell? ⟨r, o + j * 4, none⟩ = some (.int .u8 (ts[j].1 : Int)) ∧ w.cell? ⟨r, o + j * 4 + 1, none⟩ = some (.string ts[j].2.1) ∧ w.cell? ⟨r, o + j * 4 + 2, none⟩ = some (.int .i64 ts[j].2.2.1) ∧ w.cell? ⟨r, o + j * 4 + 3, none⟩ = some ts[j].2.2.2
theorem OpsAt.below {w w' : World} {A : Option Addr} {ts : List OpT} (h : OpsAt w A ts) (hb : Below w.heap.size w w') : OpsAt w' A ts := fun j hj => by
  obtain ⟨r, o, e, h1, h2, h3, h4, h5⟩ := h j hj
  exact ⟨r, o, e, Nat.lt_of_lt_of_le h1 hb.size, (hb.cell (p := ⟨r, _, none⟩) h1).trans h2, (hb.cell (p := ⟨r, _, none⟩) h1).trans h3, (hb.cell (p := ⟨r, _, none⟩) h1).trans h4, (hb.cell (p := ⟨r, _, none⟩) h1).trans h5⟩
set_option maxHeartbeats 2000000 in
set_option maxRecDepth 100000 in
theorem ops_any {w : World} {A : Option Addr} {c : Nat} (ts : List OpT) (hc : OpsAt w A ts) (hl : ts.length ≤ 281474976710656) :
    Calls Try.prog 16 #[.slice A ts.length c] w fun e w' => (∃ b, e = .returned (.bool b)) ∧ w = w' := by
  have HC := Lib.hid hc
  clear hc
  go_enter Try.func16, Try.ntmps16
  go_wp2_with fail
  go_loop [3, 4] (fun v i => ∃ (k : Nat) (x : Int), k ≤ ts.length ∧ i = .int .i64 (k : Int) ∧ v = .int .i64 x) (fun _ i => ts.length - (intOf i).toNat)
  case atStart => exact ⟨0, 0, Nat.zero_le _, rfl, rfl⟩
  case round =>
    obtain ⟨k, x, hk, rfl, rfl⟩ := hrel
    by_cases hlt : (k : Int) < (ts.length : Int)
    · have hkl : k < ts.length := by omega
      obtain ⟨r, o, rfl, hr, hck0, hck, hck2, hck3⟩ := HC.out k hkl
      obtain ⟨y, hy⟩ : ∃ y, y = ts[k].2.1 := ⟨_, rfl⟩
      rw [← hy] at hck
      clear hy hck0 hck2 hck3
      obtain ⟨q, hq⟩ : ∃ q, q = wrap64 (wrap64 (x + 1) + (y.size : Int)) := ⟨_, rfl⟩
      by_cases hb : 1048576 < q
      · have hd : decide (1048576 < wrap64 (wrap64 (x + 1) + (y.size : Int))) = true := by rw [← hq]; exact decide_eq_true hb
        go_wp2_with fail
        go_ret
        exact ⟨.inr rfl, rfl⟩
      · have hd : decide (1048576 < wrap64 (wrap64 (x + 1) + (y.size : Int))) = false := by rw [← hq]; exact decide_eq_false hb
        go_wp2_with fail
        exact ⟨⟨k + 1, _, by omega, by go_num, rfl⟩, by simp [intOf]; omega⟩
    · by_cases h5 : (5000 : Int) < (ts.length : Int)
      · go_wp2_with fail
        go_ret
        exact ⟨.inr rfl, rfl⟩
      · go_wp2_with fail
        go_ret
        exact ⟨.inl rfl, rfl⟩
end Go.Proofs.Ytnoalklbgncajaa.Dct
