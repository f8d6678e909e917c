import Derived.Test.YtpnmhldaaaemeaaMa1
/- Chapter 24: 'rising', at each of its uses. Printed by gen_ris24.py. -/
namespace Go.Proofs.Ytpnmhldaaaemeaa.Snp
open Go.RowKit Go.Proofs.Ytpnmhldaaaemeaa.Pin

/-- as many as there may be, each may be, each two beside one another are as is asked -/
def Ris {α : Type} (may : α → Prop) (ahead : α → α → Prop) (l : List α) : Prop := l.length ≤ 1048576 ∧ ∀ (j : Nat) (h : j < l.length), may l[j] ∧ (∀ _ : 0 < j, ahead (l[j - 1]'(by omega)) l[j])
def Upto {α : Type} (may : α → Prop) (ahead : α → α → Prop) (l : List α) (k : Nat) : Prop := ∀ (j : Nat) (h : j < l.length), j < k → may l[j] ∧ (∀ _ : 0 < j, ahead (l[j - 1]'(by omega)) l[j])
theorem upto_zero {α : Type} (may : α → Prop) (ahead : α → α → Prop) (l : List α) : Upto may ahead l 0 := fun j _ h => absurd h (by omega)
theorem upto_succ {α : Type} {may : α → Prop} {ahead : α → α → Prop} {l : List α} {k : Nat} (h : Upto may ahead l k) (hk : k < l.length) (h1 : may l[k]) (h2 : ∀ _ : 0 < k, ahead (l[k - 1]'(by omega)) l[k]) : Upto may ahead l (k + 1) := by
  intro j hj hlt
  by_cases e : j = k
  · subst e; exact ⟨h1, h2⟩
  · exact h j hj (by omega)
theorem ris_of_upto {α : Type} {may : α → Prop} {ahead : α → α → Prop} {l : List α} (hl : l.length ≤ 1048576) (h : Upto may ahead l l.length) : Ris may ahead l := ⟨hl, fun j hj => h j hj hj⟩
def AnyP {α : Type} (_ _ : α) : Prop := True
theorem of_pb {P : Prop} (h : pb P = true) : P := by
  by_cases h' : P
  · exact h'
  · rw [pb_false h'] at h; cases h
theorem not_pb {P : Prop} (h : pb P = false) : ¬ P := fun h' => by rw [pb_true h'] at h; cases h
set_option maxHeartbeats 1000000 in
theorem ris_set (l : List ByteArray) (v : Value) (w : World) (hT : TextsAt w w.heap.size v l) (hl : l.length ≤ 140737488351232) :
    Asks 40 #[v, .func (.func 20) #[] #[], .func (.func 57) #[] #[]] w (Ris MayP LtS l) := by
  obtain ⟨A, c, rfl, hT⟩ := hT
  unfold Asks
  obtain ⟨L, hL⟩ : ∃ L, L = l.length := ⟨_, rfl⟩
  rw [← hL] at hl ⊢
  have HL := Lib.hid hL
  have HT := Lib.hid hT
  clear hL hT
  by_cases hbig : (1048576 : Int) < (L : Int)
  · rw [pb_false (show ¬ Ris MayP LtS l from fun h => by have := h.1; have := HL.out; omega)]
    go_enter Try.func40, Try.ntmps40
    go_wp2_with fail
    go_ret
    exact ⟨rfl, Below.refl _ _⟩
  · go_enter Try.func40, Try.ntmps40
    go_wp2_with fail
    go_loopw [14] (fun i wr => ∃ (k : Nat), k ≤ L ∧ i = .int .i64 k ∧ Hid (Upto MayP LtS l k) ∧ Hid (Below w.heap.size w wr)) (fun i _ => L - (intOf i).toNat)
    case atStart => exact ⟨0, by omega, rfl, Lib.hid (upto_zero _ _ _), Lib.hid (Below.refl _ _)⟩
    case round =>
      obtain ⟨k, hk, rfl, HU, HB⟩ := hrel
      by_cases hlt : k < L
      · have hlt' : (k : Int) < (L : Int) := by omega
        have hkl : k < l.length := by rw [← HL.out]; exact hlt
        obtain ⟨r, o, rfl, hr, hc⟩ := HT.out (by have := HL.out; omega)
        have hck := (HB.out.cell (p := ⟨r, _, none⟩) hr).trans (hc k hkl)
        obtain ⟨x, hx⟩ : ∃ x, x = l[k] := ⟨_, rfl⟩
        rw [← hx] at hck
        have HX := Lib.hid hx
        have HM := Lib.hid (fun W => may_any x W)
        cases hm : pb (MayP x) with
        | false =>
          have HN := Lib.hid (not_pb hm)
          clear hc hx
          go_wp2_with fail
          refine (HM.out _).mono ?_
          rintro e w' ⟨rfl, rfl⟩
          go_wp2_with fail
          go_ret
          refine ⟨?_, HB.out⟩
          rw [pb_false (fun h => by
            have := (h.2 k hkl).1
            rw [← HX.out] at this
            exact HN.out this)]
          rfl
        | true =>
          have HMX := Lib.hid (of_pb hm)
          by_cases hk0 : 0 < k
          · have hk0' : (0 : Int) < (k : Int) := by omega
            have hcp := (HB.out.cell (p := ⟨r, _, none⟩) hr).trans (hc (k - 1) (by omega))
            obtain ⟨y, hy⟩ : ∃ y, y = l[k - 1] := ⟨_, rfl⟩
            rw [← hy] at hcp
            have HY := Lib.hid hy
            have HA := Lib.hid (fun W => sless_any y x W)
            clear hc hx hy
            cases ha : pb (LtS y x) with
            | false =>
              have HN := Lib.hid (not_pb ha)
              go_wp2_with fail
              refine (HM.out _).mono ?_
              rintro e w' ⟨rfl, rfl⟩
              go_wp2_with fail
              refine (HA.out _).mono ?_
              rintro e w' ⟨rfl, rfl⟩
              go_wp2_with fail
              go_ret
              refine ⟨?_, HB.out⟩
              rw [pb_false (fun h => by
                have := (h.2 k hkl).2 hk0
                rw [← HX.out, ← HY.out] at this
                exact HN.out this)]
              rfl
            | true =>
              have HN := Lib.hid (of_pb ha)
              go_wp2_with fail
              refine (HM.out _).mono ?_
              rintro e w' ⟨rfl, rfl⟩
              go_wp2_with fail
              refine (HA.out _).mono ?_
              rintro e w' ⟨rfl, rfl⟩
              go_wp2_with fail
              go_roundw
              case rel => exact ⟨k + 1, by omega, by go_num, Lib.hid (upto_succ HU.out hkl (by rw [← HX.out]; exact HMX.out) (fun _ => by rw [← HX.out, ← HY.out]; exact HN.out)), HB⟩
              case measure => simp [intOf]; omega
          · have hk0' : ¬ (0 : Int) < (k : Int) := by omega
            clear hc hx
            go_wp2_with fail
            refine (HM.out _).mono ?_
            rintro e w' ⟨rfl, rfl⟩
            go_wp2_with fail
            go_roundw
            case rel => exact ⟨k + 1, by omega, by go_num, Lib.hid (upto_succ HU.out hkl (by rw [← HX.out]; exact HMX.out) (fun h => absurd h hk0)), HB⟩
            case measure => simp [intOf]; omega
      · have hlt' : ¬ (k : Int) < (L : Int) := by omega
        have hkL : k = l.length := by have := HL.out; omega
        have HK := Lib.hid hkL
        clear hkL
        go_wp2_with fail
        go_ret
        refine ⟨?_, HB.out⟩
        have hu := HU.out
        rw [HK.out] at hu
        rw [pb_true (ris_of_upto (by have := HL.out; omega) hu)]
        rfl
theorem any_str_pb (a b : ByteArray) (w : World) : Calls Try.prog 41 #[.string a, .string b] w fun e w' => e = .returned (.bool (pb (AnyP a b))) ∧ w = w' := by
  rw [pb_true (show AnyP a b from trivial)]
  exact any_str a b w
set_option maxHeartbeats 1000000 in
theorem ris_list (l : List ByteArray) (v : Value) (w : World) (hT : TextsAt w w.heap.size v l) (hl : l.length ≤ 140737488351232) :
    Asks 40 #[v, .func (.func 20) #[] #[], .func (.func 41) #[] #[]] w (Ris MayP AnyP l) := by
  obtain ⟨A, c, rfl, hT⟩ := hT
  unfold Asks
  obtain ⟨L, hL⟩ : ∃ L, L = l.length := ⟨_, rfl⟩
  rw [← hL] at hl ⊢
  have HL := Lib.hid hL
  have HT := Lib.hid hT
  clear hL hT
  by_cases hbig : (1048576 : Int) < (L : Int)
  · rw [pb_false (show ¬ Ris MayP AnyP l from fun h => by have := h.1; have := HL.out; omega)]
    go_enter Try.func40, Try.ntmps40
    go_wp2_with fail
    go_ret
    exact ⟨rfl, Below.refl _ _⟩
  · go_enter Try.func40, Try.ntmps40
    go_wp2_with fail
    go_loopw [14] (fun i wr => ∃ (k : Nat), k ≤ L ∧ i = .int .i64 k ∧ Hid (Upto MayP AnyP l k) ∧ Hid (Below w.heap.size w wr)) (fun i _ => L - (intOf i).toNat)
    case atStart => exact ⟨0, by omega, rfl, Lib.hid (upto_zero _ _ _), Lib.hid (Below.refl _ _)⟩
    case round =>
      obtain ⟨k, hk, rfl, HU, HB⟩ := hrel
      by_cases hlt : k < L
      · have hlt' : (k : Int) < (L : Int) := by omega
        have hkl : k < l.length := by rw [← HL.out]; exact hlt
        obtain ⟨r, o, rfl, hr, hc⟩ := HT.out (by have := HL.out; omega)
        have hck := (HB.out.cell (p := ⟨r, _, none⟩) hr).trans (hc k hkl)
        obtain ⟨x, hx⟩ : ∃ x, x = l[k] := ⟨_, rfl⟩
        rw [← hx] at hck
        have HX := Lib.hid hx
        have HM := Lib.hid (fun W => may_any x W)
        cases hm : pb (MayP x) with
        | false =>
          have HN := Lib.hid (not_pb hm)
          clear hc hx
          go_wp2_with fail
          refine (HM.out _).mono ?_
          rintro e w' ⟨rfl, rfl⟩
          go_wp2_with fail
          go_ret
          refine ⟨?_, HB.out⟩
          rw [pb_false (fun h => by
            have := (h.2 k hkl).1
            rw [← HX.out] at this
            exact HN.out this)]
          rfl
        | true =>
          have HMX := Lib.hid (of_pb hm)
          by_cases hk0 : 0 < k
          · have hk0' : (0 : Int) < (k : Int) := by omega
            have hcp := (HB.out.cell (p := ⟨r, _, none⟩) hr).trans (hc (k - 1) (by omega))
            obtain ⟨y, hy⟩ : ∃ y, y = l[k - 1] := ⟨_, rfl⟩
            rw [← hy] at hcp
            have HY := Lib.hid hy
            have HA := Lib.hid (fun W => any_str_pb y x W)
            clear hc hx hy
            cases ha : pb (AnyP y x) with
            | false =>
              have HN := Lib.hid (not_pb ha)
              go_wp2_with fail
              refine (HM.out _).mono ?_
              rintro e w' ⟨rfl, rfl⟩
              go_wp2_with fail
              refine (HA.out _).mono ?_
              rintro e w' ⟨rfl, rfl⟩
              go_wp2_with fail
              go_ret
              refine ⟨?_, HB.out⟩
              rw [pb_false (fun h => by
                have := (h.2 k hkl).2 hk0
                rw [← HX.out, ← HY.out] at this
                exact HN.out this)]
              rfl
            | true =>
              have HN := Lib.hid (of_pb ha)
              go_wp2_with fail
              refine (HM.out _).mono ?_
              rintro e w' ⟨rfl, rfl⟩
              go_wp2_with fail
              refine (HA.out _).mono ?_
              rintro e w' ⟨rfl, rfl⟩
              go_wp2_with fail
              go_roundw
              case rel => exact ⟨k + 1, by omega, by go_num, Lib.hid (upto_succ HU.out hkl (by rw [← HX.out]; exact HMX.out) (fun _ => by rw [← HX.out, ← HY.out]; exact HN.out)), HB⟩
              case measure => simp [intOf]; omega
          · have hk0' : ¬ (0 : Int) < (k : Int) := by omega
            clear hc hx
            go_wp2_with fail
            refine (HM.out _).mono ?_
            rintro e w' ⟨rfl, rfl⟩
            go_wp2_with fail
            go_roundw
            case rel => exact ⟨k + 1, by omega, by go_num, Lib.hid (upto_succ HU.out hkl (by rw [← HX.out]; exact HMX.out) (fun h => absurd h hk0)), HB⟩
            case measure => simp [intOf]; omega
      · have hlt' : ¬ (k : Int) < (L : Int) := by omega
        have hkL : k = l.length := by have := HL.out; omega
        have HK := Lib.hid hkL
        clear hkL
        go_wp2_with fail
        go_ret
        refine ⟨?_, HB.out⟩
        have hu := HU.out
        rw [HK.out] at hu
        rw [pb_true (ris_of_upto (by have := HL.out; omega) hu)]
        rfl
end Go.Proofs.Ytpnmhldaaaemeaa.Snp
