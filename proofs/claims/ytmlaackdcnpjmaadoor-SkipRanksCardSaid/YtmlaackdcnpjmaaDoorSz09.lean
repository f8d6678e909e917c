/- Chapter 09: size and Beyond, whatever they answer. -/
import Derived.Test.YtmlaackdcnpjmaaDoorNew09
namespace Go.Proofs.YtmlaackdcnpjmaaDoor.Skp
open Go Go.RowKit Go.Proofs.YtmlaackdcnpjmaaDoor.Pin Go.Proofs.YtmlaackdcnpjmaaDoor.Flt
theorem wrap_in (x : Int) : -9223372036854775808 ≤ wrap64 x ∧ wrap64 x ≤ 9223372036854775807 := by
  unfold wrap64
  omega
set_option maxHeartbeats 2000000 in
set_option maxRecDepth 100000 in
theorem size_any (l : List Sc) (v : Value) (w : World) (hl : MemsAt w w.heap.size v l) (hn : l.length < 1099511627776) :
    Calls Tryd.prog 8 #[v] w fun e w' => (∃ x : Int, e = .returned (.int .i64 x) ∧ -9223372036854775808 ≤ x ∧ x ≤ 9223372036854775807) ∧ w = w' := by
  obtain ⟨A, c, rfl, hl⟩ := hl
  obtain ⟨n, hnn⟩ : ∃ n, n = l.length := ⟨_, rfl⟩
  have HN := Lib.hid hnn
  have HL := Lib.hid hl
  rw [← hnn] at hn ⊢
  clear hl hnn
  go_enter Tryd.func8, Tryd.ntmps8
  go_wp2_with fail
  go_loop [3, 4] (fun v i => ∃ (k : Nat) (x : Int), k ≤ n ∧ i = .int .i64 (k : Int) ∧ v = .int .i64 x ∧ Hid (-9223372036854775808 ≤ x ∧ x ≤ 9223372036854775807)) (fun _ i => n - (intOf i).toNat)
  case atStart => exact ⟨0, n, Nat.zero_le _, rfl, rfl, Lib.hid ⟨by omega, by omega⟩⟩
  case round =>
    obtain ⟨k, x, hk, rfl, rfl, HX⟩ := hrel
    by_cases hlt : (k : Int) < (n : Int)
    · by_cases hx : x < 2097152
      · have hkl : k < l.length := by have := HN.out; omega
        obtain ⟨r, o, rfl, hr, hc⟩ := HL.out (by omega)
        have hck := (hc k hkl).1
        obtain ⟨y, hy⟩ : ∃ y, y = l[k].1 := ⟨_, rfl⟩
        rw [← hy] at hck
        clear hy hc
        go_wp2_with fail
        exact ⟨⟨k + 1, wrap64 (x + (y.size : Int)), by omega, by go_num, rfl, Lib.hid (wrap_in _)⟩, by simp [intOf]; omega⟩
      · have hd : decide (x < 2097152) = false := by simpa using hx
        go_wp2_with fail
        go_ret
        exact ⟨⟨x, rfl, HX.out⟩, rfl⟩
    · go_wp2_with fail
      go_ret
      exact ⟨⟨x, rfl, HX.out⟩, rfl⟩
set_option maxHeartbeats 400000 in
set_option maxRecDepth 100000 in
theorem beyond_one (x : Int) (h0 : -9223372036854775808 ≤ x) (h1 : x ≤ 9223372036854775807) (c g : Nat) (w : World) (hc : w.cell? ⟨g, 0, none⟩ = some (.int .i64 x)) :
    Calls Tryd.prog 7 #[.slice (some ⟨g, 0, none⟩) 1 c] w fun e w' => (∃ b, e = .returned (.bool b)) ∧ w = w' := by
  have HC := Lib.hid hc
  clear hc
  go_enter Tryd.func7, Tryd.ntmps7
  go_wp2
  go_loop [3, 4] (fun v i => ∃ (k : Nat) (n : Int), k ≤ 1 ∧ i = .int .i64 k ∧ v = .int .i64 n ∧ (k = 0 → n = 0)) (fun _ i => 1 - (intOf i).toNat)
  case atStart => exact ⟨0, 0, by omega, rfl, rfl, fun _ => rfl⟩
  case round =>
    obtain ⟨k, n, hk, rfl, rfl, hn⟩ := hrel
    by_cases hlt : k < 1
    · obtain rfl : k = 0 := by omega
      obtain rfl := hn rfl
      have hcell := HC.out
      go_wp2
      · go_ret
        exact ⟨.inr rfl, rfl⟩
      · exact ⟨⟨1, x, by omega, by go_num, by simp, fun h => by omega⟩, by simp [intOf]⟩
    · obtain rfl : k = 1 := by omega
      go_wp2
      go_ret
      exact ⟨.inl rfl, rfl⟩
end Go.Proofs.YtmlaackdcnpjmaaDoor.Skp
