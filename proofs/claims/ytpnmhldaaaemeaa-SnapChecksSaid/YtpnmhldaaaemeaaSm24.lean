/- Chapter 24: the small functions of Check. -/
import Derived.Test.YtpnmhldaaaemeaaIt24
import Derived.WalkLawsBesides
namespace Go.Proofs.Ytpnmhldaaaemeaa.Snp
open Go.RowKit Go.Proofs.Ytpnmhldaaaemeaa.Pin

theorem pb_bool (b : Bool) : pb (b = true) = b := by
  cases b
  · exact pb_false (by decide)
  · exact pb_true rfl
def LtS (a b : ByteArray) : Prop := Op.bytesLess a.toList b.toList = true
theorem pb_lts (a b : ByteArray) : pb (LtS a b) = Op.bytesLess a.toList b.toList := pb_bool _
theorem hless_any (p q : Pr) (w : World) : Asks 49 #[.agg #[.string p.1, .string p.2], .agg #[.string q.1, .string q.2]] w (LtS p.1 q.1) := by
  obtain ⟨a, b⟩ := p
  obtain ⟨c, d⟩ := q
  unfold Asks
  rw [pb_lts]
  go_enter Try.func49, Try.ntmps49
  go_wp2_with fail
  go_ret
  exact ⟨rfl, ((Below.refl _ _).alloc (Nat.le_refl _) _).alloc (by simp) _⟩
theorem sless_any (a b : ByteArray) (w : World) : Calls Try.prog 57 #[.string a, .string b] w fun e w' => e = .returned (.bool (pb (LtS a b))) ∧ w = w' := by
  rw [pb_lts]
  go_enter Try.func57, Try.ntmps57
  go_wp2_with fail
  go_ret
  exact ⟨rfl, rfl⟩
theorem any_str (a b : ByteArray) (w : World) : Calls Try.prog 41 #[.string a, .string b] w fun e w' => e = .returned (.bool true) ∧ w = w' := by
  go_enter Try.func41, Try.ntmps41
  go_wp2_with fail
  go_ret
  exact ⟨rfl, rfl⟩
theorem any_pair (p q : Pr) (w : World) : Calls Try.prog 96 #[.agg #[.string p.1, .string p.2], .agg #[.string q.1, .string q.2]] w fun e w' => e = .returned (.bool true) ∧ Below w.heap.size w w' := by
  go_enter Try.func96, Try.ntmps96
  go_wp2_with fail
  go_ret
  exact ⟨rfl, ((Below.refl _ _).alloc (Nat.le_refl _) _).alloc (by simp) _⟩
def LessP (a b : Nat × Nat) : Prop := a.1 < b.1 ∨ a.1 = b.1 ∧ a.2 < b.2
abbrev idV (a : Nat × Nat) : Value := .agg #[.int .u64 (a.1 : Int), .int .u64 (a.2 : Int)]
theorem less_any (a b : Nat × Nat) (w : World) : Asks 95 #[idV a, idV b] w (LessP a b) := by
  obtain ⟨a1, a2⟩ := a
  obtain ⟨b1, b2⟩ := b
  unfold Asks
  by_cases h1 : a1 < b1
  · rw [pb_true (show LessP (a1, a2) (b1, b2) from .inl h1)]
    have h1' : decide ((a1 : Int) < (b1 : Int)) = true := by simpa using h1
    go_enter Try.func95, Try.ntmps95
    go_wp2_with fail
    go_ret
    exact ⟨rfl, ((Below.refl _ _).alloc (Nat.le_refl _) _).alloc (by simp) _⟩
  · by_cases h2 : a1 = b1
    · by_cases h3 : a2 < b2
      · rw [pb_true (show LessP (a1, a2) (b1, b2) from .inr ⟨h2, h3⟩)]
        subst h2
        go_enter Try.func95, Try.ntmps95
        go_wp2_with fail
        go_ret
        exact ⟨rfl, ((Below.refl _ _).alloc (Nat.le_refl _) _).alloc (by simp) _⟩
      · rw [pb_false (show ¬ LessP (a1, a2) (b1, b2) from fun h => by rcases h with h | h; exact h1 h; exact h3 h.2)]
        subst h2
        go_enter Try.func95, Try.ntmps95
        go_wp2_with fail
        go_ret
        exact ⟨rfl, ((Below.refl _ _).alloc (Nat.le_refl _) _).alloc (by simp) _⟩
    · rw [pb_false (show ¬ LessP (a1, a2) (b1, b2) from fun h => by rcases h with h | h; exact h1 h; exact h2 h.1)]
      have h2' : ¬ (a1 : Int) = (b1 : Int) := by omega
      go_enter Try.func95, Try.ntmps95
      go_wp2_with fail
      go_ret
      exact ⟨rfl, ((Below.refl _ _).alloc (Nat.le_refl _) _).alloc (by simp) _⟩
def FLt (x y : Nat) : Prop := FloatKind.f64.format.order x y = some .lt
def FEq (x y : Nat) : Prop := FloatKind.f64.format.order x y = some .eq
theorem nan_any (x : Nat) (w : World) : Calls Try.prog 88 #[.float .f64 x] w fun e w' => e = .returned (.bool (pb (¬ FEq x x))) ∧ w = w' := by
  by_cases h : FloatKind.f64.format.order x x = some Ordering.eq
  · rw [pb_false (show ¬ ¬ FEq x x from fun h' => h' h)]
    go_enter Try.func88, Try.ntmps88
    go_wp2_with fail
    go_ret
    exact ⟨rfl, rfl⟩
  · rw [pb_true (show ¬ FEq x x from h)]
    have h' : (FloatKind.f64.format.order x x != some Ordering.eq) = true := by simpa using h
    clear h
    go_enter Try.func88, Try.ntmps88
    go_wp2_with fail
    go_ret
    exact ⟨rfl, rfl⟩
theorem call_bits (x : Nat) (w : World) : (callFunc 91 #[.float .f64 x]).run Try.prog w = .ok (.value (.int .u64 (x : Int))) w := by kernel_rfl
set_option maxRecDepth 100000 in
theorem sig_any (x : Nat) (w : World) (hx : x < 18446744073709551616) : Calls Try.prog 89 #[.float .f64 x] w fun e w' => e = .returned (.bool (pb (9223372036854775808 ≤ x))) ∧ w = w' := by
  have hc := call_bits x
  go_enter Try.func89, Try.ntmps89
  go_wp2_with fail
  go_ret
  have e : decide (wrap64 (x : Int) < 0) = pb (9223372036854775808 ≤ x) := by
    rw [pb_decide]
    refine pb_congr ?_
    unfold wrap64
    omega
  exact ⟨by rw [← e]; rfl, rfl⟩
theorem sless2_any (p q : Sc) (w : World) : Asks 90 #[.agg #[.string p.1, .float .f64 p.2], .agg #[.string q.1, .float .f64 q.2]] w (FLt p.2 q.2 ∨ FEq p.2 q.2 ∧ LtS p.1 q.1) := by
  obtain ⟨a, b⟩ := p
  obtain ⟨c, d⟩ := q
  unfold Asks
  by_cases h1 : FloatKind.f64.format.order b d = some Ordering.lt
  · rw [pb_true (.inl h1)]
    go_enter Try.func90, Try.ntmps90
    go_wp2_with fail
    go_ret
    exact ⟨rfl, ((Below.refl _ _).alloc (Nat.le_refl _) _).alloc (by simp) _⟩
  · by_cases h2 : FloatKind.f64.format.order b d = some Ordering.eq
    · rw [pb_congr (show (FLt b d ∨ FEq b d ∧ LtS a c) ↔ LtS a c from ⟨fun h => by rcases h with h | h; exact absurd h h1; exact h.2, fun h => .inr ⟨h2, h⟩⟩), pb_lts]
      go_enter Try.func90, Try.ntmps90
      go_wp2_with fail
      go_ret
      exact ⟨rfl, ((Below.refl _ _).alloc (Nat.le_refl _) _).alloc (by simp) _⟩
    · rw [pb_false (fun h => by rcases h with h | h; exact h1 h; exact h2 h.1)]
      have h1' : (FloatKind.f64.format.order b d == some Ordering.lt) = false := by simpa using h1
      have h2' : (FloatKind.f64.format.order b d == some Ordering.eq) = false := by simpa using h2
      clear h1 h2
      go_enter Try.func90, Try.ntmps90
      go_wp2_with fail
      go_ret
      exact ⟨rfl, ((Below.refl _ _).alloc (Nat.le_refl _) _).alloc (by simp) _⟩
end Go.Proofs.Ytpnmhldaaaemeaa.Snp
