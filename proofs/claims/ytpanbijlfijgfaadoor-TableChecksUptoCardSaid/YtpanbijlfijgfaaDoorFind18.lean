/- table.Find: the row of the name, or none. -/
import Derived.Test.YtpanbijlfijgfaaDoorLowB18
import Derived.Test.YtpanbijlfijgfaaDoorRows18
import Derived.Test.YtpanbijlfijgfaaDoorPin
import Derived.Lib.AtoiErrMem
namespace Go.Proofs.YtpanbijlfijgfaaDoor.Fnd
open Go.RowKit Go.Sort Go.Proofs.YtpanbijlfijgfaaDoor.Shf Go.Proofs.YtpanbijlfijgfaaDoor.Rws Go.Proofs.YtpanbijlfijgfaaDoor.Low18 Go.Proofs.YtpanbijlfijgfaaDoor.Pin

/-- the name of row k -/
noncomputable def nm (k : Nat) : ByteArray := match rowsC[k * 9]? with
  | some (.string b) => b
  | _ => ⟨#[]⟩
def isStr : Option Value → Bool
  | some (.string _) => true
  | _ => false
theorem nm_strs : (List.range 72).all (fun k => isStr rowsC[k * 9]?) = true := by kernel_rfl
theorem nm_cell (k : Nat) (hk : k < 72) : rowsC[k * 9]? = some (.string (nm k)) := by
  have h := List.all_eq_true.1 nm_strs k (List.mem_range.2 hk)
  unfold nm
  cases hv : rowsC[k * 9]? with
  | none => rw [hv] at h; cases h
  | some v =>
    rw [hv] at h
    cases v <;> first | rfl | cases h

/-! ### The order of names -/
theorem bl_irrefl : ∀ x : List UInt8, Op.bytesLess x x = false
  | [] => rfl
  | a :: x => by simp [Op.bytesLess, bl_irrefl x]
theorem bl_trans : ∀ {x y z : List UInt8}, Op.bytesLess x y = true → Op.bytesLess y z = true → Op.bytesLess x z = true
  | x, y, [], _, h => by cases y <;> cases h
  | [], _, _ :: _, _, _ => rfl
  | _ :: _, [], _ :: _, h, _ => by cases h
  | a :: x, b :: y, c :: z, h1, h2 => by
    simp only [Op.bytesLess, Bool.or_eq_true, Bool.and_eq_true, decide_eq_true_eq, beq_iff_eq] at h1 h2 ⊢
    rcases h1 with h1 | ⟨rfl, h1⟩ <;> rcases h2 with h2 | ⟨rfl, h2⟩
    · exact .inl (UInt8.lt_trans h1 h2)
    · exact .inl h1
    · exact .inl h2
    · exact .inr ⟨rfl, bl_trans h1 h2⟩
theorem bl_tri : ∀ {x y : List UInt8}, Op.bytesLess x y = false → Op.bytesLess y x = false → x = y
  | [], [], _, _ => rfl
  | [], _ :: _, h, _ => by cases h
  | _ :: _, [], _, h => by cases h
  | a :: x, b :: y, h1, h2 => by
    simp only [Op.bytesLess, Bool.or_eq_false_iff, Bool.and_eq_false_iff, decide_eq_false_iff_not, beq_eq_false_iff_ne] at h1 h2
    have e : a = b := UInt8.le_antisymm (UInt8.not_lt.1 h2.1) (UInt8.not_lt.1 h1.1)
    subst e
    rw [bl_tri (h1.2.resolve_left (by simp)) (h2.2.resolve_left (by simp))]
/-- is the name of row k ahead of n? -/
noncomputable def ahead (n : ByteArray) (k : Nat) : Bool := Op.bytesLess (nm k).toList n.toList
theorem rising : (List.range 71).all (fun k => Op.bytesLess (nm k).toList (nm (k + 1)).toList) = true := by kernel_rfl
theorem rise : ∀ (d k : Nat), k + d + 1 < 72 → Op.bytesLess (nm k).toList (nm (k + d + 1)).toList = true
  | 0, k, h => List.all_eq_true.1 rising k (List.mem_range.2 (by omega))
  | d + 1, k, h => bl_trans (rise d k (by omega)) (List.all_eq_true.1 rising (k + d + 1) (List.mem_range.2 (by omega)))
theorem ahead_mono (n : ByteArray) (a b : Nat) (hab : a ≤ b) (hb : b < 72) (h : (!ahead n a) = true) : (!ahead n b) = true := by
  rcases Nat.eq_or_lt_of_le hab with rfl | hlt
  · exact h
  · cases hx : ahead n b with
    | false => rfl
    | true =>
      have h1 := rise (b - a - 1) a (by omega)
      rw [show a + (b - a - 1) + 1 = b by omega] at h1
      have : ahead n a = true := bl_trans h1 hx
      rw [this] at h
      cases h
theorem count_down (q : Nat → Bool) : ∀ (n : Nat), (∀ a b, a ≤ b → b < n → q b = true → q a = true) → (∀ i, i < n → (q i = true ↔ i < (List.range n).countP q)) ∧ (List.range n).countP q ≤ n
  | 0, _ => ⟨fun i h => absurd h (by omega), by simp⟩
  | n + 1, h => by
    obtain ⟨h1, h2⟩ := count_down q n (fun a b hab hb => h a b hab (by omega))
    rw [List.range_succ, List.countP_append, List.countP_singleton]
    cases hq : q n with
    | true =>
      have hall : (List.range n).countP q = n := by
        rcases Nat.eq_or_lt_of_le h2 with h3 | h3
        · exact h3
        · have := (h1 _ h3).1 (h _ n (by omega) (by omega) hq)
          omega
      refine ⟨fun i hi => ⟨fun _ => by simp; omega, fun _ => h i n (by omega) (by omega) hq⟩, by simp; omega⟩
    | false =>
      refine ⟨fun i hi => ?_, by simp; omega⟩
      rcases Nat.lt_or_ge i n with h3 | h3
      · simpa using h1 i h3
      · obtain rfl : i = n := by omega
        rw [hq]
        simp
        exact h2
/-- where the name would stand -/
noncomputable def place (n : ByteArray) : Nat := (List.range 72).countP (ahead n)
theorem place_le (n : ByteArray) : place n ≤ 72 := (count_down (ahead n) 72 (fun a b hab hb h => by
  cases hx : ahead n a with
  | true => rfl
  | false => have := ahead_mono n a b hab hb (by rw [hx]; rfl); rw [h] at this; cases this)).2
theorem place_lt (n : ByteArray) (i : Nat) (hi : i < 72) : ahead n i = true ↔ i < place n := (count_down (ahead n) 72 (fun a b hab hb h => by
  cases hx : ahead n a with
  | true => rfl
  | false => have := ahead_mono n a b hab hb (by rw [hx]; rfl); rw [h] at this; cases this)).1 i hi
/-- the name of a row stands where it does -/
theorem place_nm (k : Nat) (hk : k < 72) : place (nm k) = k := by
  have h1 := place_lt (nm k) k hk
  have h0 : ahead (nm k) k = false := bl_irrefl _
  rw [h0] at h1
  have h2 : ¬ k < place (nm k) := fun h => by simpa using h1.2 h
  rcases Nat.lt_or_ge (place (nm k)) k with h3 | h3
  · have h4 : ¬ ahead (nm k) (place (nm k)) = true := fun h => absurd ((place_lt _ _ (by omega)).1 h) (by omega)
    have h5 := rise (k - place (nm k) - 1) (place (nm k)) (by omega)
    rw [show place (nm k) + (k - place (nm k) - 1) + 1 = k by omega] at h5
    exact absurd h5 h4
  · omega

set_option maxHeartbeats 1000000 in
theorem probe (k : Nat) (hk : k < 72) (a b : Nat) (n : ByteArray) (w : World) (hc : w.cell? ⟨a, k * 9, none⟩ = some (.string (nm k))) (hn : w.cell? ⟨b, 0, none⟩ = some (.string n)) :
    Calls Tryd.prog 57 #[.int .i64 (k : Int), .pointer (some ⟨a, 0, none⟩), .pointer (some ⟨b, 0, none⟩)] w fun e w' => e = .returned (.bool (!ahead n k)) ∧ ∃ q, w' = w.drewN q := by
  have hk' : (k : Int) < 72 := by omega
  go_enter Tryd.func57, Tryd.ntmps57
  go_wp2
  refine wp_region_pin [0,0,0,1,1,0,0] (by kernel_rfl) (by kernel_rfl) ?_
  (refine pin_pure (fun K hK => ?_); go_simp; refine hK _ _ ?_; clear hK K)
  (refine pin_pure (fun K hK => ?_); go_simp; refine hK _ _ ?_; clear hK K)
  (refine pin_pure (fun K hK => ?_); go_simp; refine hK _ _ ?_; clear hK K)
  (refine pin_read (fun K hK => ?_); go_simp; refine hK _ _ ?_; clear hK K)
  (refine pin_read (fun K hK => ?_); go_simp; refine hK _ _ ?_; clear hK K)
  (refine pin_pure (fun K hK => ?_); go_simp; refine hK _ _ ?_; clear hK K)
  (refine pin_pure (fun K hK => ?_); go_simp; refine hK _ _ ?_; clear hK K)
  refine pin_nil ?_
  intro nq
  go_wp2
  go_ret
  exact ⟨rfl, _, rfl⟩

/-! ### What a row holds -/
def isInt : Option Value → Bool
  | some (.int .i64 _) => true
  | _ => false
def isBool : Option Value → Bool
  | some (.bool _) => true
  | _ => false
noncomputable def iv (k j : Nat) : Int := match rowsC[k * 9 + j]? with
  | some (.int .i64 n) => n
  | _ => 0
noncomputable def bv (k j : Nat) : Bool := match rowsC[k * 9 + j]? with
  | some (.bool b) => b
  | _ => false
theorem ints_ok : (List.range 72).all (fun k => [1, 2, 5, 6, 8].all fun j => isInt rowsC[k * 9 + j]?) = true := by kernel_rfl
theorem bools_ok : (List.range 72).all (fun k => [3, 4, 7].all fun j => isBool rowsC[k * 9 + j]?) = true := by kernel_rfl
theorem iv_cell (k j : Nat) (hk : k < 72) (hj : j ∈ [1, 2, 5, 6, 8]) : rowsC[k * 9 + j]? = some (.int .i64 (iv k j)) := by
  have h := List.all_eq_true.1 (List.all_eq_true.1 ints_ok k (List.mem_range.2 hk)) j hj
  unfold iv
  cases hv : rowsC[k * 9 + j]? with
  | none => rw [hv] at h; cases h
  | some v =>
    rw [hv] at h
    cases v with
    | int ki n => cases ki <;> first | rfl | cases h
    | _ => cases h
theorem bv_cell (k j : Nat) (hk : k < 72) (hj : j ∈ [3, 4, 7]) : rowsC[k * 9 + j]? = some (.bool (bv k j)) := by
  have h := List.all_eq_true.1 (List.all_eq_true.1 bools_ok k (List.mem_range.2 hk)) j hj
  unfold bv
  cases hv : rowsC[k * 9 + j]? with
  | none => rw [hv] at h; cases h
  | some v =>
    rw [hv] at h
    cases v <;> first | rfl | cases h
/-- a row, as a value -/
noncomputable def specV (k : Nat) : Value := .agg #[.string (nm k), .int .i64 (iv k 1), .int .i64 (iv k 2), .bool (bv k 3), .bool (bv k 4), .int .i64 (iv k 5), .int .i64 (iv k 6), .bool (bv k 7), .int .i64 (iv k 8)]
def specN : Value := .agg #[.string ⟨#[]⟩, .int .i64 0, .int .i64 0, .bool false, .bool false, .int .i64 0, .int .i64 0, .bool false, .int .i64 0]
/-- which row has the name? -/
noncomputable def found (n : ByteArray) : Option Nat := if place n < 72 ∧ nm (place n) = n then some (place n) else none

/-- the block of the rows -/
def TabAt (w : World) (g : Nat) : Prop := ∃ t, w.heap[g]? = some (.cells rowsC t (0, 0))
theorem TabAt.cell {w : World} {g : Nat} (h : TabAt w g) (i : Nat) : w.cell? ⟨g, i, none⟩ = rowsC[i]? := by
  obtain ⟨t, h⟩ := h
  simp [World.cell?, h]

theorem search (g b : Nat) (n : ByteArray) (w : World) (hg : TabAt w g) (hn : w.cell? ⟨b, 0, none⟩ = some (.string n)) :
    Calls Tryd.prog 56 #[.int .i64 72, .func (.func 57) #[] #[.pointer (some ⟨g, 0, none⟩), .pointer (some ⟨b, 0, none⟩)]] w fun e w' => e = .returned (.int .i64 (place n : Nat)) ∧ ∃ q os, w' = grow (w.drewN q) os := by
  have eg : ∀ args w, (callFunc 57 args).run Tryd.prog w = .ok (.enter 57 args) w := enters_of Tryd.func57 (by kernel_rfl) rfl
  have hS := Any.sort_Search searchL 57 #[.pointer (some ⟨g, 0, none⟩), .pointer (some ⟨b, 0, none⟩)] 72 (fun i => !ahead n i) w eg (by decide)
    (fun m os i hi => (probe i hi g b n _ (cell_grown (Lib.lt_of_cell ((hg.cell (i * 9)).trans (nm_cell i hi))) ((hg.cell (i * 9)).trans (nm_cell i hi)) m os) (cell_grown (Lib.lt_of_cell hn) hn m os)).mono fun _ _ ⟨he, q, hq⟩ => ⟨he, q, #[], by rw [hq, grow_empty]⟩)
    (ahead_mono n)
  simp only [Bool.not_not] at hS
  exact hS
end Go.Proofs.YtpanbijlfijgfaaDoor.Fnd
