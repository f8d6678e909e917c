/- The walk of the statements' bound: Beyond tells whether sizes, added up one by one, pass 1048576. -/
import Derived.Test.YtnoalklbgncajaaProg
import Derived.WalkKit
import Derived.KernelRfl
import Derived.Lib.Hide
namespace Go.Proofs.Ytnoalklbgncajaa.Bey
open Go.RowKit

/-- do they pass the bound, added to n one by one? -/
def beyond : Int → List Int → Bool
  | _, [] => false
  | n, x :: l => if 1048576 < n + x then true else beyond (n + x) l

theorem drop_cons (ns : List Int) (k : Nat) (h : k < ns.length) : ns.drop k = ns[k] :: ns.drop (k + 1) := by
  rw [List.drop_eq_getElem_cons h]

set_option maxHeartbeats 400000 in
set_option maxRecDepth 100000 in
theorem beyond_any (ns : List Int) (c : Nat) (g : Nat) (w : World) (hn : ns.length ≤ 281474976710656) (hb : ∀ x ∈ ns, 0 ≤ x ∧ x ≤ 281474976710656)
    (hc : ∀ j (h : j < ns.length), w.cell? ⟨g, j, none⟩ = some (.int .i64 ns[j])) :
    Calls Try.prog 6 #[.slice (some ⟨g, 0, none⟩) ns.length c] w fun e w' => e = .returned (.bool (beyond 0 ns)) ∧ w = w' := by
  have HC := Lib.hid hc
  have HB := Lib.hid hb
  clear hc hb
  go_enter Try.func6, Try.ntmps6
  go_wp2
  go_loop [3, 4] (fun v i => ∃ (k : Nat) (n : Int), k ≤ ns.length ∧ i = .int .i64 k ∧ v = .int .i64 n ∧ 0 ≤ n ∧ n ≤ 1048576 ∧ Hid (beyond 0 ns = beyond n (ns.drop k))) (fun _ i => ns.length - (intOf i).toNat)
  case atStart => exact ⟨0, 0, by omega, rfl, rfl, by omega, by omega, Lib.hid rfl⟩
  case round =>
    obtain ⟨k, n, hk, rfl, rfl, h0, h1, HN⟩ := hrel
    by_cases hlt : k < ns.length
    · obtain ⟨x, hx⟩ : ∃ x, x = ns[k] := ⟨_, rfl⟩
      have hcell := HC.out k hlt
      have hbd := HB.out ns[k] (List.getElem_mem hlt)
      have HD : Hid (ns.drop k = x :: ns.drop (k + 1)) := by rw [hx]; exact drop_cons ns k hlt
      rw [← hx] at hcell hbd
      clear hx
      obtain ⟨hb0, hb1⟩ := hbd
      go_wp2
      · go_ret
        have ht : 1048576 < n + x := by omega
        exact ⟨by rw [HN.out, HD.out, beyond, if_pos ht]; rfl, rfl⟩
      · have ht : ¬ 1048576 < n + x := by omega
        exact ⟨⟨k + 1, n + x, by omega, by go_num, rfl, by omega, by omega, Lib.hid (by rw [HN.out, HD.out, beyond, if_neg ht])⟩, by simp [intOf]; omega⟩
    · have e : k = ns.length := by omega
      subst e
      go_wp2
      go_ret
      exact ⟨by rw [HN.out, List.drop_length]; rfl, rfl⟩
end Go.Proofs.Ytnoalklbgncajaa.Bey
