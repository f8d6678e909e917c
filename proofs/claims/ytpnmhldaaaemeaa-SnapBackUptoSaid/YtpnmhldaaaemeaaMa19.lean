import Derived.Test.YtpnmhldaaaemeaaMa5
/- Chapter 24: plain laws: the order of texts, of floats; sorted lists; a merge. -/
namespace Go.Proofs.Ytpnmhldaaaemeaa.Snp
open Go.RowKit Go.Proofs.Ytpnmhldaaaemeaa.Pin

theorem bl_irr : ∀ a : List UInt8, Op.bytesLess a a = false
  | [] => rfl
  | a :: x => by simp [Op.bytesLess, bl_irr x]
theorem bl_trans : ∀ {a b c : List UInt8}, Op.bytesLess a b = true → Op.bytesLess b c = true → Op.bytesLess a c = true
  | _, [], _, h, _ => by cases ‹List UInt8› <;> simp [Op.bytesLess] at h
  | _, _ :: _, [], _, h => by simp [Op.bytesLess] at h
  | [], _ :: _, _ :: _, _, _ => rfl
  | a :: x, b :: y, c :: z, h, k => by
    simp only [Op.bytesLess, Bool.or_eq_true, decide_eq_true_eq, Bool.and_eq_true, beq_iff_eq] at h k ⊢
    rcases h with h | ⟨rfl, h⟩
    · rcases k with k | ⟨rfl, k⟩
      · exact .inl (UInt8.lt_trans h k)
      · exact .inl h
    · rcases k with k | ⟨rfl, k⟩
      · exact .inl k
      · exact .inr ⟨rfl, bl_trans h k⟩
theorem bl_tri : ∀ (a b : List UInt8), Op.bytesLess a b = true ∨ a = b ∨ Op.bytesLess b a = true
  | [], [] => .inr (.inl rfl)
  | [], _ :: _ => .inl rfl
  | _ :: _, [] => .inr (.inr rfl)
  | a :: x, b :: y => by
    simp only [Op.bytesLess, Bool.or_eq_true, decide_eq_true_eq, Bool.and_eq_true, beq_iff_eq]
    by_cases h1 : a < b
    · exact .inl (.inl h1)
    by_cases h2 : b < a
    · exact .inr (.inr (.inl h2))
    obtain rfl : a = b := UInt8.le_antisymm (UInt8.not_lt.1 h2) (UInt8.not_lt.1 h1)
    rcases bl_tri x y with h | rfl | h
    · exact .inl (.inr ⟨rfl, h⟩)
    · exact .inr (.inl rfl)
    · exact .inr (.inr (.inr ⟨rfl, h⟩))
theorem text_ext {a b : ByteArray} (h : a.toList = b.toList) : a = b := by
  rw [ByteArray.toList_eq, ByteArray.toList_eq] at h
  cases a with | mk a => cases b with | mk b => exact congrArg _ (Array.toList_inj.1 h)
theorem lts_irr (a : ByteArray) : ¬ LtS a a := by unfold LtS; rw [bl_irr]; simp
theorem lts_trans {a b c : ByteArray} (h : LtS a b) (k : LtS b c) : LtS a c := bl_trans h k
theorem lts_tri (a b : ByteArray) : LtS a b ∨ a = b ∨ LtS b a := by
  rcases bl_tri a.toList b.toList with h | h | h
  · exact .inl h
  · exact .inr (.inl (text_ext h))
  · exact .inr (.inr h)
/-- at most -/
def LeS (a b : ByteArray) : Prop := LtS a b ∨ a = b
theorem les_trans {a b c : ByteArray} (h : LeS a b) (k : LeS b c) : LeS a c := by
  rcases h with h | rfl
  · rcases k with k | rfl
    · exact .inl (lts_trans h k)
    · exact .inl h
  · exact k
theorem les_anti {a b : ByteArray} (h : LeS a b) (k : LeS b a) : a = b := by
  rcases h with h | h
  · rcases k with k | k
    · exact absurd (lts_trans h k) (lts_irr a)
    · exact k.symm
  · exact h
theorem les_of_not {a b : ByteArray} (h : ¬ LeS a b) : LeS b a := by
  rcases lts_tri a b with k | k | k
  · exact absurd (.inl k) h
  · exact absurd (.inr k) h
  · exact .inl k
theorem les_bool (a b : ByteArray) : (Op.bytesLess a.toList b.toList || a.toList == b.toList) = pb (LeS a b) := by
  by_cases h : LeS a b
  · rw [pb_true h]
    rcases h with h | rfl
    · have h' : Op.bytesLess a.toList b.toList = true := h
      rw [h']
      rfl
    · simp
  · rw [pb_false h]
    have h1 : Op.bytesLess a.toList b.toList = false := Bool.eq_false_iff.2 fun e => h (.inl e)
    have h2 : (a.toList == b.toList) = false := Bool.eq_false_iff.2 fun e => h (.inr (text_ext (eq_of_beq e)))
    rw [h1, h2]
    rfl
/-- rising -/
def SrtP (l : List ByteArray) : Prop := l.Pairwise LeS
def NoTwin (l : List ByteArray) (k : Nat) : Prop := ∀ (j : Nat) (h : j < l.length), j < k → ∀ _ : 0 < j, l[j - 1]'(by omega) ≠ l[j]
theorem notwin_succ {l : List ByteArray} {k : Nat} (h : NoTwin l k) (hk : k < l.length) (h1 : ∀ _ : 0 < k, l[k - 1]'(by omega) ≠ l[k]) : NoTwin l (k + 1) := by
  intro j hj hlt
  by_cases e : j = k
  · subst e; exact h1
  · exact h j hj (by omega)
theorem nodup_iff {l : List ByteArray} (h : SrtP l) : NoTwin l l.length ↔ l.Nodup := by
  constructor
  · intro hn
    rw [List.Nodup, List.pairwise_iff_getElem]
    intro i j hi hj hij e
    have hp := List.pairwise_iff_getElem.1 h
    by_cases hq : i = j - 1
    · subst hq
      exact hn j hj hj (by omega) e
    · have h1 := hp i (j - 1) hi (by omega) (by omega)
      have h2 := hp (j - 1) j (by omega) hj (by omega)
      rw [← e] at h2
      exact hn j hj hj (by omega) ((les_anti h2 h1).trans e)
  · intro hn j hj _ h0
    rw [List.Nodup, List.pairwise_iff_getElem] at hn
    exact hn (j - 1) j (by omega) hj (by omega)
/-- a merge under way: what is out, what is left of both halves -/
structure Mrg (src out a b : List ByteArray) : Prop where
  perm : (out ++ (a ++ b)).Perm src
  so : SrtP out
  sa : SrtP a
  sb : SrtP b
  le : ∀ x ∈ out, ∀ y ∈ a ++ b, LeS x y
theorem Mrg.init {src a b : List ByteArray} (h : (a ++ b).Perm src) (sa : SrtP a) (sb : SrtP b) : Mrg src [] a b := ⟨h, List.Pairwise.nil, sa, sb, fun _ h => absurd h (by simp)⟩
theorem srt_tail {x : ByteArray} {l : List ByteArray} (h : SrtP (x :: l)) : SrtP l ∧ ∀ y ∈ l, LeS x y := ⟨(List.pairwise_cons.1 h).2, (List.pairwise_cons.1 h).1⟩
theorem srt_push {x : ByteArray} {l : List ByteArray} (h : SrtP l) (hx : ∀ y ∈ l, LeS y x) : SrtP (l ++ [x]) := by
  unfold SrtP
  rw [List.pairwise_append]
  exact ⟨h, by simp, fun a ha b hb => by obtain rfl := List.mem_singleton.1 hb; exact hx a ha⟩
theorem Mrg.left {src out a b : List ByteArray} {x : ByteArray} (h : Mrg src out (x :: a) b) (hx : ∀ y, b.head? = some y → LeS x y) : Mrg src (out ++ [x]) a b := by
  obtain ⟨h1, h2⟩ := srt_tail h.sa
  have hb : ∀ y ∈ b, LeS x y := by
    intro y hy
    cases b with
    | nil => cases hy
    | cons z b =>
      rcases List.mem_cons.1 hy with rfl | hy
      · exact hx _ rfl
      · exact les_trans (hx z rfl) ((srt_tail h.sb).2 y hy)
  refine ⟨?_, srt_push h.so (fun y hy => h.le y hy x (by simp)), h1, h.sb, ?_⟩
  · have := h.perm
    simpa using this
  · intro y hy z hz
    rcases List.mem_append.1 hy with hy | hy
    · exact h.le y hy z (by simp only [List.cons_append, List.mem_cons]; exact .inr hz)
    · obtain rfl := List.mem_singleton.1 hy
      rcases List.mem_append.1 hz with hz | hz
      · exact h2 z hz
      · exact hb z hz
theorem Mrg.right {src out a b : List ByteArray} {x : ByteArray} (h : Mrg src out a (x :: b)) (hx : ∀ y, a.head? = some y → LeS x y) : Mrg src (out ++ [x]) a b := by
  obtain ⟨h1, h2⟩ := srt_tail h.sb
  have ha : ∀ y ∈ a, LeS x y := by
    intro y hy
    cases a with
    | nil => cases hy
    | cons z a =>
      rcases List.mem_cons.1 hy with rfl | hy
      · exact hx _ rfl
      · exact les_trans (hx z rfl) ((srt_tail h.sa).2 y hy)
  refine ⟨?_, srt_push h.so (fun y hy => h.le y hy x (by simp)), h.sa, h1, ?_⟩
  · refine List.Perm.trans ?_ h.perm
    rw [List.append_assoc]
    exact List.Perm.append_left out (by simpa using (List.perm_middle (a := x) (l₁ := a) (l₂ := b)).symm)
  · intro y hy z hz
    rcases List.mem_append.1 hy with hy | hy
    · exact h.le y hy z (by
        rcases List.mem_append.1 hz with hz | hz
        · exact List.mem_append_left _ hz
        · exact List.mem_append_right _ (by simp [hz]))
    · obtain rfl := List.mem_singleton.1 hy
      rcases List.mem_append.1 hz with hz | hz
      · exact ha z hz
      · exact h2 z hz
theorem Mrg.done {src out : List ByteArray} (h : Mrg src out [] []) : out.Perm src ∧ SrtP out := ⟨by have := h.perm; simpa using this, h.so⟩
-- floats
theorem datum_self : ∀ d : Ieee.Datum, d.order d = some .eq ∨ ∀ e, d.order e = none ∧ e.order d = none
  | .nan s m => .inr fun e => by cases e <;> exact ⟨rfl, rfl⟩
  | .infinity s => .inl (by cases s <;> rfl)
  | .number s m i => .inl (by
      simp only [Ieee.Datum.order, Option.some.injEq]
      exact Std.ReflCmp.compare_self)
theorem datum_none : ∀ d e : Ieee.Datum, d.order d = some .eq → e.order e = some .eq → d.order e ≠ none
  | .nan .., _, h, _ => by cases h
  | _, .nan .., _, h => by cases h
  | .infinity _, .infinity _, _, _ => by simp [Ieee.Datum.order]
  | .infinity _, .number .., _, _ => by simp [Ieee.Datum.order]
  | .number .., .infinity _, _, _ => by simp [Ieee.Datum.order]
  | .number .., .number .., _, _ => by simp [Ieee.Datum.order]
def FGt (x y : Nat) : Prop := FloatKind.f64.format.order x y = some .gt
theorem flt_tri {x y : Nat} (hx : FEq x x) (hy : FEq y y) : FLt x y ∨ FEq x y ∨ FGt x y := by
  have h := datum_none _ _ hx hy
  unfold FLt FEq FGt Ieee.Format.order
  cases hq : ((FloatKind.f64.format.read x).order (FloatKind.f64.format.read y)) with
  | none => exact absurd hq h
  | some o => cases o <;> simp
theorem fsame_excl {x y : Nat} (h : FEq x y) : ¬ FLt x y ∧ ¬ FGt x y := by
  unfold FLt FGt
  unfold FEq at h
  rw [h]
  simp
theorem flt_excl {x y : Nat} (h : FLt x y) : ¬ FEq x y ∧ ¬ FGt x y := by
  unfold FEq FGt
  unfold FLt at h
  rw [h]
  simp
theorem signed_zero {s : Bool} {m u : Nat} (h : Ieee.signed s m u = 0) : m = 0 := by
  unfold Ieee.signed at h
  have h2 : m <<< u = 0 := by
    cases s
    · simpa using h
    · simpa using h
  rw [Nat.shiftLeft_eq] at h2
  rcases Nat.mul_eq_zero.1 h2 with h2 | h2
  · exact h2
  · exact absurd h2 (Nat.pos_iff_ne_zero.1 (Nat.two_pow_pos u))
theorem number_zero {s : Bool} {m : Nat} {i j : Int} (h : (Ieee.Datum.number s m i).order (.number false 0 j) = some .eq) : m = 0 := by
  simp only [Ieee.Datum.order, Option.some.injEq] at h
  have h2 := Std.LawfulEqOrd.eq_of_compare h
  refine signed_zero (s := s) (u := (i - min i j).toNat) (h2.trans ?_)
  simp [Ieee.signed]
/-- equal to zero: its lower bits are nought -/
theorem feq_zero {x : Nat} (h : FEq x 0) : x % 9223372036854775808 = 0 := by
  have e0 : FloatKind.f64.format.read 0 = .number false 0 (-1074) := by rfl
  have hs : FloatKind.f64.format.signWeight = 9223372036854775808 := by rfl
  have hb : FloatKind.f64.format.binade = 4503599627370496 := by rfl
  have h' : (FloatKind.f64.format.read x).order (.number false 0 (-1074)) = some .eq := by rw [← e0]; exact h
  unfold Ieee.Format.read at h'
  simp only [hs, hb] at h'
  split at h'
  · exact number_zero h'
  · split at h'
    · have := number_zero h'
      omega
    · split at h'
      · exfalso
        cases hq : (x / 9223372036854775808 % 2 == 1) <;> rw [hq] at h' <;> simp [Ieee.Datum.order] at h'
      · simp [Ieee.Datum.order] at h'
end Go.Proofs.Ytpnmhldaaaemeaa.Snp
/- Chapter 24: are two lists the same. Printed by gen_same24.py texts pairs. -/
namespace Go.Proofs.Ytpnmhldaaaemeaa.Snp
open Go.RowKit Go.Proofs.Ytpnmhldaaaemeaa.Pin

set_option maxHeartbeats 2000000 in
set_option maxRecDepth 100000 in
theorem same_texts (l m : List ByteArray) (v u : Value) (w : World) (hT : TextsAt w w.heap.size v l) (hU : TextsAt w w.heap.size u m) (hl : l.length ≤ 140737488351232) :
    Asks 104 #[v, u] w (l = m) := by
  obtain ⟨A, c, rfl, hT⟩ := hT
  obtain ⟨E, d, rfl, hU⟩ := hU
  unfold Asks
  by_cases hlm : l.length = m.length
  · obtain ⟨L, hL⟩ : ∃ L, L = l.length := ⟨_, rfl⟩
    have HL := Lib.hid hL
    have HM := Lib.hid (hL.trans hlm)
    rw [← hlm, ← hL]
    rw [← hL] at hl
    have HT := Lib.hid hT
    have HU := Lib.hid hU
    clear hL hT hU hlm
    go_enter Try.func104, Try.ntmps104
    go_wp2_with fail
    go_loopw [5] (fun i wr => ∃ k : Nat, k ≤ L ∧ i = .int .i64 k ∧ Hid (∀ j, j < k → l[j]? = m[j]?) ∧ Hid (Below w.heap.size w wr)) (fun i _ => L - (intOf i).toNat)
    case atStart => exact ⟨0, Nat.zero_le _, rfl, Lib.hid (fun j h => absurd h (Nat.not_lt_zero _)), Lib.hid (Below.refl _ _)⟩
    case round =>
      obtain ⟨k, hk, rfl, HE, HB⟩ := hrel
      by_cases hlt : (k : Int) < (L : Int)
      · have hkl : k < l.length := by have := HL.out; omega
        have hkm : k < m.length := by have := HM.out; omega
        obtain ⟨r, o, rfl, hr, hc⟩ := HT.out (by omega)
        obtain ⟨p, q, rfl, hp, hd⟩ := HU.out (by omega)
        obtain ⟨x, hx⟩ : ∃ x, x = l[k] := ⟨_, rfl⟩
        obtain ⟨y, hy⟩ : ∃ y, y = m[k] := ⟨_, rfl⟩
        have HX := Lib.hid hx
        have HY := Lib.hid hy
        have hck := hc k hkl
        have hdk := hd k hkm
        rw [← hx] at hck
        rw [← hy] at hdk
        have HXY : Hid (x ≠ y → l ≠ m) := Lib.hid (fun h e => h (by subst e; rw [HX.out, HY.out]))
        have HST : Hid (x = y → ∀ j, j < k + 1 → l[j]? = m[j]?) := Lib.hid (fun h j hj => by
          rcases Nat.lt_or_ge j k with h' | h'
          · exact HE.out j h'
          · obtain rfl : j = k := by omega
            rw [List.getElem?_eq_getElem hkl, List.getElem?_eq_getElem hkm, ← HX.out, ← HY.out, h])
        have x1 : wr.cell? ⟨r, o + k, none⟩ = some (.string x) := (HB.out.cell (p := ⟨r, _, none⟩) hr).trans hck
        have y1 : wr.cell? ⟨p, q + k, none⟩ = some (.string y) := (HB.out.cell (p := ⟨p, _, none⟩) hp).trans hdk
        clear hx hy hc hd hck hdk
        by_cases hxy : x = y
        · have HS := Lib.hid (HST.out hxy)
          subst hxy
          go_wp2_with fail
          refine wp_region_q [0,0,0,1,0,0,0,1,0] (by kernel_rfl) (by kernel_rfl) ?_
          (refine q_pure_n rfl (fun K hK => ?_); go_simp; refine hK _ _ ?_; clear hK K)
          (refine q_pure_n rfl (fun K hK => ?_); go_simp; refine hK _ _ ?_; clear hK K)
          (refine q_pure_n rfl (fun K hK => ?_); go_simp; refine hK _ _ ?_; clear hK K)
          (refine q_read_n rfl (fun K hK => ?_); go_simp; refine hK _ _ ?_; clear hK K)
          (refine q_pure_n rfl (fun K hK => ?_); go_simp; refine hK _ _ ?_; clear hK K)
          (refine q_pure_n rfl (fun K hK => ?_); go_simp; refine hK _ _ ?_; clear hK K)
          (refine q_pure_n rfl (fun K hK => ?_); go_simp; refine hK _ _ ?_; clear hK K)
          (refine q_read_n rfl (fun K hK => ?_); go_simp; refine hK _ _ ?_; clear hK K)
          (refine q_pure_n rfl (fun K hK => ?_); go_simp; refine hK _ _ ?_; clear hK K)
          refine q_nil ?_
          intro nq
          go_wp2_with fail
          exact ⟨⟨k + 1, by omega, by go_num, HS, Lib.hid (below_drewN HB.out _)⟩, by simp [intOf]; omega⟩
        · have HN := Lib.hid (HXY.out hxy)
          have hq : (x.toList == y.toList) = false := by
            cases hq : (x.toList == y.toList) with
            | false => rfl
            | true => exact absurd (text_ext (eq_of_beq hq)) hxy
          go_wp2_with fail
          refine wp_region_q [0,0,0,1,0,0,0,1,0] (by kernel_rfl) (by kernel_rfl) ?_
          (refine q_pure_n rfl (fun K hK => ?_); go_simp; refine hK _ _ ?_; clear hK K)
          (refine q_pure_n rfl (fun K hK => ?_); go_simp; refine hK _ _ ?_; clear hK K)
          (refine q_pure_n rfl (fun K hK => ?_); go_simp; refine hK _ _ ?_; clear hK K)
          (refine q_read_n rfl (fun K hK => ?_); go_simp; refine hK _ _ ?_; clear hK K)
          (refine q_pure_n rfl (fun K hK => ?_); go_simp; refine hK _ _ ?_; clear hK K)
          (refine q_pure_n rfl (fun K hK => ?_); go_simp; refine hK _ _ ?_; clear hK K)
          (refine q_pure_n rfl (fun K hK => ?_); go_simp; refine hK _ _ ?_; clear hK K)
          (refine q_read_n rfl (fun K hK => ?_); go_simp; refine hK _ _ ?_; clear hK K)
          (refine q_pure_n rfl (fun K hK => ?_); go_simp; refine hK _ _ ?_; clear hK K)
          refine q_nil ?_
          intro nq
          go_wp2_with fail
          go_ret
          exact ⟨by rw [pb_false HN.out]; rfl, below_drewN HB.out _⟩
      · have hkL : k = L := by omega
        have HK := Lib.hid hkL
        clear hkL
        go_wp2_with fail
        go_ret
        refine ⟨?_, HB.out⟩
        rw [pb_true (List.ext_getElem? fun j => by
          by_cases hj : j < L
          · exact HE.out j (by have := HK.out; omega)
          · rw [List.getElem?_eq_none (by have := HL.out; omega), List.getElem?_eq_none (by have := HM.out; omega)])]
        rfl
  · have hlm' : ¬ ((l.length : Int) = (m.length : Int)) := by omega
    have HN : Hid (l ≠ m) := Lib.hid (fun e => hlm (by rw [e]))
    clear hT hU
    go_enter Try.func104, Try.ntmps104
    go_wp2_with fail
    go_ret
    exact ⟨by rw [pb_false HN.out]; rfl, Below.refl _ _⟩
set_option maxHeartbeats 2000000 in
set_option maxRecDepth 100000 in
theorem same_pairs (l m : List Pr) (v u : Value) (w : World) (hT : PairsAt w w.heap.size v l) (hU : PairsAt w w.heap.size u m) (hl : l.length ≤ 140737488351232) :
    Asks 105 #[v, u] w (l = m) := by
  obtain ⟨A, c, rfl, hT⟩ := hT
  obtain ⟨E, d, rfl, hU⟩ := hU
  unfold Asks
  by_cases hlm : l.length = m.length
  · obtain ⟨L, hL⟩ : ∃ L, L = l.length := ⟨_, rfl⟩
    have HL := Lib.hid hL
    have HM := Lib.hid (hL.trans hlm)
    rw [← hlm, ← hL]
    rw [← hL] at hl
    have HT := Lib.hid hT
    have HU := Lib.hid hU
    clear hL hT hU hlm
    go_enter Try.func105, Try.ntmps105
    go_wp2_with fail
    go_loopw [5] (fun i wr => ∃ k : Nat, k ≤ L ∧ i = .int .i64 k ∧ Hid (∀ j, j < k → l[j]? = m[j]?) ∧ Hid (Below w.heap.size w wr)) (fun i _ => L - (intOf i).toNat)
    case atStart => exact ⟨0, Nat.zero_le _, rfl, Lib.hid (fun j h => absurd h (Nat.not_lt_zero _)), Lib.hid (Below.refl _ _)⟩
    case round =>
      obtain ⟨k, hk, rfl, HE, HB⟩ := hrel
      by_cases hlt : (k : Int) < (L : Int)
      · have hkl : k < l.length := by have := HL.out; omega
        have hkm : k < m.length := by have := HM.out; omega
        obtain ⟨r, o, rfl, hr, hc⟩ := HT.out (by omega)
        obtain ⟨p, q, rfl, hp, hd⟩ := HU.out (by omega)
        obtain ⟨x, hx⟩ : ∃ x, x = l[k] := ⟨_, rfl⟩
        obtain ⟨y, hy⟩ : ∃ y, y = m[k] := ⟨_, rfl⟩
        have HX := Lib.hid hx
        have HY := Lib.hid hy
        have hck := hc k hkl
        have hdk := hd k hkm
        rw [← hx] at hck
        rw [← hy] at hdk
        have HXY : Hid (x ≠ y → l ≠ m) := Lib.hid (fun h e => h (by subst e; rw [HX.out, HY.out]))
        have HST : Hid (x = y → ∀ j, j < k + 1 → l[j]? = m[j]?) := Lib.hid (fun h j hj => by
          rcases Nat.lt_or_ge j k with h' | h'
          · exact HE.out j h'
          · obtain rfl : j = k := by omega
            rw [List.getElem?_eq_getElem hkl, List.getElem?_eq_getElem hkm, ← HX.out, ← HY.out, h])
        have x1 : wr.cell? ⟨r, o + k * 2, none⟩ = some (.string x.1) := (HB.out.cell (p := ⟨r, _, none⟩) hr).trans hck.1
        have x2 : wr.cell? ⟨r, o + k * 2 + 1, none⟩ = some (.string x.2) := (HB.out.cell (p := ⟨r, _, none⟩) hr).trans hck.2
        have y1 : wr.cell? ⟨p, q + k * 2, none⟩ = some (.string y.1) := (HB.out.cell (p := ⟨p, _, none⟩) hp).trans hdk.1
        have y2 : wr.cell? ⟨p, q + k * 2 + 1, none⟩ = some (.string y.2) := (HB.out.cell (p := ⟨p, _, none⟩) hp).trans hdk.2
        clear hx hy hc hd hck hdk
        by_cases hxy : x = y
        · have HS := Lib.hid (HST.out hxy)
          subst hxy
          go_wp2_with fail
          refine wp_region_q [0,0,0,1,0,0,0,1,0] (by kernel_rfl) (by kernel_rfl) ?_
          (refine q_pure_n rfl (fun K hK => ?_); go_simp; refine hK _ _ ?_; clear hK K)
          (refine q_pure_n rfl (fun K hK => ?_); go_simp; refine hK _ _ ?_; clear hK K)
          (refine q_pure_n rfl (fun K hK => ?_); go_simp; refine hK _ _ ?_; clear hK K)
          (refine q_read_n rfl (fun K hK => ?_); go_simp; refine hK _ _ ?_; clear hK K)
          (refine q_pure_n rfl (fun K hK => ?_); go_simp; refine hK _ _ ?_; clear hK K)
          (refine q_pure_n rfl (fun K hK => ?_); go_simp; refine hK _ _ ?_; clear hK K)
          (refine q_pure_n rfl (fun K hK => ?_); go_simp; refine hK _ _ ?_; clear hK K)
          (refine q_read_n rfl (fun K hK => ?_); go_simp; refine hK _ _ ?_; clear hK K)
          (refine q_pure_n rfl (fun K hK => ?_); go_simp; refine hK _ _ ?_; clear hK K)
          refine q_nil ?_
          intro nq
          go_wp2_with fail
          exact ⟨⟨k + 1, by omega, by go_num, HS, Lib.hid (below_drewN HB.out _)⟩, by simp [intOf]; omega⟩
        · have HN := Lib.hid (HXY.out hxy)
          by_cases h1 : x.1 = y.1
          · have hq1 : x.1.toList = y.1.toList := by rw [h1]
            have hq2 : ¬ x.2.toList = y.2.toList := fun e => hxy (Prod.ext h1 (text_ext e))
            clear h1 hxy
            go_wp2_with fail
            refine wp_region_q [0,0,0,1,0,0,0,1,0] (by kernel_rfl) (by kernel_rfl) ?_
            (refine q_pure_n rfl (fun K hK => ?_); go_simp; refine hK _ _ ?_; clear hK K)
            (refine q_pure_n rfl (fun K hK => ?_); go_simp; refine hK _ _ ?_; clear hK K)
            (refine q_pure_n rfl (fun K hK => ?_); go_simp; refine hK _ _ ?_; clear hK K)
            (refine q_read_n rfl (fun K hK => ?_); go_simp; refine hK _ _ ?_; clear hK K)
            (refine q_pure_n rfl (fun K hK => ?_); go_simp; refine hK _ _ ?_; clear hK K)
            (refine q_pure_n rfl (fun K hK => ?_); go_simp; refine hK _ _ ?_; clear hK K)
            (refine q_pure_n rfl (fun K hK => ?_); go_simp; refine hK _ _ ?_; clear hK K)
            (refine q_read_n rfl (fun K hK => ?_); go_simp; refine hK _ _ ?_; clear hK K)
            (refine q_pure_n rfl (fun K hK => ?_); go_simp; refine hK _ _ ?_; clear hK K)
            refine q_nil ?_
            intro nq
            go_wp2_with fail
            go_ret
            exact ⟨by rw [pb_false HN.out]; rfl, below_drewN HB.out _⟩
          · have hq1 : ¬ x.1.toList = y.1.toList := fun e => h1 (text_ext e)
            clear h1 hxy
            go_wp2_with fail
            refine wp_region_q [0,0,0,1,0,0,0,1,0] (by kernel_rfl) (by kernel_rfl) ?_
            (refine q_pure_n rfl (fun K hK => ?_); go_simp; refine hK _ _ ?_; clear hK K)
            (refine q_pure_n rfl (fun K hK => ?_); go_simp; refine hK _ _ ?_; clear hK K)
            (refine q_pure_n rfl (fun K hK => ?_); go_simp; refine hK _ _ ?_; clear hK K)
            (refine q_read_n rfl (fun K hK => ?_); go_simp; refine hK _ _ ?_; clear hK K)
            (refine q_pure_n rfl (fun K hK => ?_); go_simp; refine hK _ _ ?_; clear hK K)
            (refine q_pure_n rfl (fun K hK => ?_); go_simp; refine hK _ _ ?_; clear hK K)
            (refine q_pure_n rfl (fun K hK => ?_); go_simp; refine hK _ _ ?_; clear hK K)
            (refine q_read_n rfl (fun K hK => ?_); go_simp; refine hK _ _ ?_; clear hK K)
            (refine q_pure_n rfl (fun K hK => ?_); go_simp; refine hK _ _ ?_; clear hK K)
            refine q_nil ?_
            intro nq
            go_wp2_with fail
            go_ret
            exact ⟨by rw [pb_false HN.out]; rfl, below_drewN HB.out _⟩
      · have hkL : k = L := by omega
        have HK := Lib.hid hkL
        clear hkL
        go_wp2_with fail
        go_ret
        refine ⟨?_, HB.out⟩
        rw [pb_true (List.ext_getElem? fun j => by
          by_cases hj : j < L
          · exact HE.out j (by have := HK.out; omega)
          · rw [List.getElem?_eq_none (by have := HL.out; omega), List.getElem?_eq_none (by have := HM.out; omega)])]
        rfl
  · have hlm' : ¬ ((l.length : Int) = (m.length : Int)) := by omega
    have HN : Hid (l ≠ m) := Lib.hid (fun e => hlm (by rw [e]))
    clear hT hU
    go_enter Try.func105, Try.ntmps105
    go_wp2_with fail
    go_ret
    exact ⟨by rw [pb_false HN.out]; rfl, Below.refl _ _⟩
end Go.Proofs.Ytpnmhldaaaemeaa.Snp
/- Chapter 24: are two floats, two members, two entries the same. -/
namespace Go.Proofs.Ytpnmhldaaaemeaa.Snp
open Go.RowKit Go.Proofs.Ytpnmhldaaaemeaa.Pin

set_option maxRecDepth 100000 in
theorem same_float (a b : Nat) (w : World) (ha : FEq a a) (hb : FEq b b) : Calls Try.prog 115 #[.float .f64 a, .float .f64 b] w fun e w' => e = .returned (.bool (pb (a = b))) ∧ w = w' := by
  have h1 : (FloatKind.f64.format.order a a != some Ordering.eq) = false := by
    have h' : FloatKind.f64.format.order a a = some Ordering.eq := ha
    simp [h']
  have h2 : (FloatKind.f64.format.order b b != some Ordering.eq) = false := by
    have h' : FloatKind.f64.format.order b b = some Ordering.eq := hb
    simp [h']
  have hc1 := call_bits a
  have hc2 := call_bits b
  clear ha hb
  by_cases h : a = b
  · rw [pb_true h]
    subst h
    go_enter Try.func115, Try.ntmps115
    go_wp2_with fail
    go_ret
    exact ⟨by simp, rfl⟩
  · rw [pb_false h]
    have hq : ((a : Int) == (b : Int)) = false := by
      simp
      omega
    clear h
    go_enter Try.func115, Try.ntmps115
    go_wp2_with fail
    go_ret
    exact ⟨by simp, rfl⟩
theorem same_scored (x y : Sc) (w : World) (hx : FEq x.2 x.2) (hy : FEq y.2 y.2) : Asks 112 #[.agg #[.string x.1, .float .f64 x.2], .agg #[.string y.1, .float .f64 y.2]] w (x = y) := by
  obtain ⟨a, i⟩ := x
  obtain ⟨b, j⟩ := y
  have HF := Lib.hid (fun w => same_float i j w hx hy)
  obtain ⟨z, hz⟩ : ∃ z, z = pb (i = j) := ⟨_, rfl⟩
  rw [← hz] at HF
  clear hx hy
  unfold Asks
  by_cases h : a = b
  · have HQ : Hid (z = pb ((a, i) = (b, j))) := Lib.hid (by rw [hz, h]; exact pb_congr ⟨fun e => by rw [e], fun e => (Prod.mk.inj e).2⟩)
    have hq : (a.toList == b.toList) = true := by rw [h]; simp
    clear h hz
    go_enter Try.func112, Try.ntmps112
    go_wp2_with fail
    refine (HF.out _).mono ?_
    rintro e w' ⟨rfl, rfl⟩
    go_wp2_with fail
    go_ret
    exact ⟨by rw [← HQ.out]; rfl, ((Below.refl _ _).alloc (Nat.le_refl _) _).alloc (by simp) _⟩
  · rw [pb_false (fun e => h (Prod.mk.inj e).1)]
    have hq : (a.toList == b.toList) = false := by
      cases hq : (a.toList == b.toList) with
      | false => rfl
      | true => exact absurd (text_ext (eq_of_beq hq)) h
    clear h hz
    go_enter Try.func112, Try.ntmps112
    go_wp2_with fail
    go_ret
    exact ⟨rfl, ((Below.refl _ _).alloc (Nat.le_refl _) _).alloc (by simp) _⟩
theorem same_entry (x y : En) (v u : Value) (w : World) (hT : PairsAt w w.heap.size v x.pairs) (hU : PairsAt w w.heap.size u y.pairs) (hl : x.pairs.length ≤ 140737488351232) :
    Asks 113 #[.agg #[.int .u64 (x.ms : Int), .int .u64 (x.seq : Int), v], .agg #[.int .u64 (y.ms : Int), .int .u64 (y.seq : Int), u]] w (x = y) := by
  obtain ⟨a, b, p⟩ := x
  obtain ⟨c, d, q⟩ := y
  have HP := Lib.hid (fun W (hb : Below w.heap.size w W) => same_pairs p q v u W ((hT.below hb).more hb.size) ((hU.below hb).more hb.size) hl)
  obtain ⟨z, hz⟩ : ∃ z, z = pb (p = q) := ⟨_, rfl⟩
  unfold Asks at HP
  rw [← hz] at HP
  obtain ⟨A, ca, rfl, _⟩ := hT
  obtain ⟨E, ce, rfl, _⟩ := hU
  clear hl
  unfold Asks
  have HB0 : ∀ o o' : Obj, Below w.heap.size w ((w.alloc o).alloc o') := fun o o' => ((Below.refl _ w).alloc (Nat.le_refl _) _).alloc (by simp) _
  have HBB := Lib.hid HB0
  clear HB0
  by_cases h : a = c ∧ b = d
  · obtain ⟨rfl, rfl⟩ := h
    have HQ : Hid (z = pb ((⟨a, b, p⟩ : En) = ⟨a, b, q⟩)) := Lib.hid (by rw [hz]; exact pb_congr ⟨fun e => by rw [e], fun e => (En.mk.inj e).2.2⟩)
    clear hz
    go_enter Try.func113, Try.ntmps113
    go_wp2_with fail
    refine (HP.out _ (HBB.out _ _)).mono ?_
    rintro e w' ⟨rfl, hb⟩
    have HB1 := Lib.hid ((HBB.out _ _).trans (hb.mono (HBB.out _ _).size))
    clear hb
    go_wp2_with fail
    go_ret
    exact ⟨by rw [← HQ.out]; rfl, HB1.out⟩
  · rw [pb_false (fun e => h ⟨(En.mk.inj e).1, (En.mk.inj e).2.1⟩)]
    by_cases h1 : a = c
    · have h2 : ¬ ((b : Int) = (d : Int)) := fun e => h ⟨h1, by omega⟩
      subst h1
      clear h
      go_enter Try.func113, Try.ntmps113
      go_wp2_with fail
      go_ret
      exact ⟨rfl, HBB.out _ _⟩
    · have h2 : ¬ ((a : Int) = (c : Int)) := fun e => h1 (by omega)
      clear h h1
      go_enter Try.func113, Try.ntmps113
      go_wp2_with fail
      go_ret
      exact ⟨rfl, HBB.out _ _⟩
end Go.Proofs.Ytpnmhldaaaemeaa.Snp
/- Chapter 24: are two lists the same. Printed by gen_same24.py scoreds entries. -/
namespace Go.Proofs.Ytpnmhldaaaemeaa.Snp
open Go.RowKit Go.Proofs.Ytpnmhldaaaemeaa.Pin

set_option maxHeartbeats 2000000 in
set_option maxRecDepth 100000 in
theorem same_scoreds (l m : List Sc) (v u : Value) (w : World) (hT : ScoredsAt w w.heap.size v l) (hU : ScoredsAt w w.heap.size u m) (hl : l.length ≤ 140737488351232) (hf : ∀ z ∈ l, FEq z.2 z.2) (hg : ∀ z ∈ m, FEq z.2 z.2) :
    Asks 106 #[v, u] w (l = m) := by
  obtain ⟨A, c, rfl, hT⟩ := hT
  obtain ⟨E, d, rfl, hU⟩ := hU
  unfold Asks
  by_cases hlm : l.length = m.length
  · obtain ⟨L, hL⟩ : ∃ L, L = l.length := ⟨_, rfl⟩
    have HL := Lib.hid hL
    have HM := Lib.hid (hL.trans hlm)
    rw [← hlm, ← hL]
    rw [← hL] at hl
    have HT := Lib.hid hT
    have HU := Lib.hid hU
    clear hL hT hU hlm
    have HFF := Lib.hid hf
    have HGG := Lib.hid hg
    clear hf hg
    go_enter Try.func106, Try.ntmps106
    go_wp2_with fail
    go_loopw [5] (fun i wr => ∃ k : Nat, k ≤ L ∧ i = .int .i64 k ∧ Hid (∀ j, j < k → l[j]? = m[j]?) ∧ Hid (Below w.heap.size w wr)) (fun i _ => L - (intOf i).toNat)
    case atStart => exact ⟨0, Nat.zero_le _, rfl, Lib.hid (fun j h => absurd h (Nat.not_lt_zero _)), Lib.hid (Below.refl _ _)⟩
    case round =>
      obtain ⟨k, hk, rfl, HE, HB⟩ := hrel
      by_cases hlt : (k : Int) < (L : Int)
      · have hkl : k < l.length := by have := HL.out; omega
        have hkm : k < m.length := by have := HM.out; omega
        obtain ⟨r, o, rfl, hr, hc⟩ := HT.out (by omega)
        obtain ⟨p, q, rfl, hp, hd⟩ := HU.out (by omega)
        obtain ⟨x, hx⟩ : ∃ x, x = l[k] := ⟨_, rfl⟩
        obtain ⟨y, hy⟩ : ∃ y, y = m[k] := ⟨_, rfl⟩
        have HX := Lib.hid hx
        have HY := Lib.hid hy
        have hck := hc k hkl
        have hdk := hd k hkm
        rw [← hx] at hck
        rw [← hy] at hdk
        have HXY : Hid (x ≠ y → l ≠ m) := Lib.hid (fun h e => h (by subst e; rw [HX.out, HY.out]))
        have HST : Hid (x = y → ∀ j, j < k + 1 → l[j]? = m[j]?) := Lib.hid (fun h j hj => by
          rcases Nat.lt_or_ge j k with h' | h'
          · exact HE.out j h'
          · obtain rfl : j = k := by omega
            rw [List.getElem?_eq_getElem hkl, List.getElem?_eq_getElem hkm, ← HX.out, ← HY.out, h])
        have x1 : wr.cell? ⟨r, o + k * 2, none⟩ = some (.string x.1) := (HB.out.cell (p := ⟨r, _, none⟩) hr).trans hck.1
        have x2 : wr.cell? ⟨r, o + k * 2 + 1, none⟩ = some (.float .f64 x.2) := (HB.out.cell (p := ⟨r, _, none⟩) hr).trans hck.2
        have y1 : wr.cell? ⟨p, q + k * 2, none⟩ = some (.string y.1) := (HB.out.cell (p := ⟨p, _, none⟩) hp).trans hdk.1
        have y2 : wr.cell? ⟨p, q + k * 2 + 1, none⟩ = some (.float .f64 y.2) := (HB.out.cell (p := ⟨p, _, none⟩) hp).trans hdk.2
        have HC := Lib.hid (fun n => same_scored x y (wr.drewN n) (by rw [hx]; exact HFF.out _ (List.getElem_mem hkl)) (by rw [hy]; exact HGG.out _ (List.getElem_mem hkm)))
        clear hx hy hc hd hck hdk
        by_cases hxy : x = y
        · have HS := Lib.hid (HST.out hxy)
          have HXX := Lib.hid hxy
          clear hxy
          go_wp2_with fail
          refine wp_region_q [0,0,0,1,0,0,0,1,2,0] (by kernel_rfl) (by kernel_rfl) ?_
          (refine q_pure_n rfl (fun K hK => ?_); go_simp; refine hK _ _ ?_; clear hK K)
          (refine q_pure_n rfl (fun K hK => ?_); go_simp; refine hK _ _ ?_; clear hK K)
          (refine q_pure_n rfl (fun K hK => ?_); go_simp; refine hK _ _ ?_; clear hK K)
          (refine q_read_n rfl (fun K hK => ?_); go_simp; refine hK _ _ ?_; clear hK K)
          (refine q_pure_n rfl (fun K hK => ?_); go_simp; refine hK _ _ ?_; clear hK K)
          (refine q_pure_n rfl (fun K hK => ?_); go_simp; refine hK _ _ ?_; clear hK K)
          (refine q_pure_n rfl (fun K hK => ?_); go_simp; refine hK _ _ ?_; clear hK K)
          (refine q_read_n rfl (fun K hK => ?_); go_simp; refine hK _ _ ?_; clear hK K)
          (refine q_write_n rfl (fun K hK => ?_); go_simp; intro nw; refine ((HC.out _).yes HXX.out).mono ?_; rintro e w3 ⟨rfl, hb3⟩; obtain ⟨w3, rfl⟩ : ∃ w5, w3 = World.drewN w5 0 := ⟨w3, rfl⟩; have HB3 : Hid (Below w.heap.size w w3) := Lib.hid ((below_drewN HB.out _).trans (hb3.mono HB.out.size)); clear hb3; refine ⟨_, rfl, _, ⟨_, rfl⟩, hK _ _ ?_⟩; clear hK K)
          (refine q_pure_n rfl (fun K hK => ?_); go_simp; refine hK _ _ ?_; clear hK K)
          refine q_nil ?_
          intro nq
          go_wp2_with fail
          exact ⟨⟨k + 1, by omega, by go_num, HS, Lib.hid (below_drewN HB3.out _)⟩, by simp [intOf]; omega⟩
        · have HN := Lib.hid (HXY.out hxy)
          have HXX := Lib.hid hxy
          clear hxy
          go_wp2_with fail
          refine wp_region_q [0,0,0,1,0,0,0,1,2,0] (by kernel_rfl) (by kernel_rfl) ?_
          (refine q_pure_n rfl (fun K hK => ?_); go_simp; refine hK _ _ ?_; clear hK K)
          (refine q_pure_n rfl (fun K hK => ?_); go_simp; refine hK _ _ ?_; clear hK K)
          (refine q_pure_n rfl (fun K hK => ?_); go_simp; refine hK _ _ ?_; clear hK K)
          (refine q_read_n rfl (fun K hK => ?_); go_simp; refine hK _ _ ?_; clear hK K)
          (refine q_pure_n rfl (fun K hK => ?_); go_simp; refine hK _ _ ?_; clear hK K)
          (refine q_pure_n rfl (fun K hK => ?_); go_simp; refine hK _ _ ?_; clear hK K)
          (refine q_pure_n rfl (fun K hK => ?_); go_simp; refine hK _ _ ?_; clear hK K)
          (refine q_read_n rfl (fun K hK => ?_); go_simp; refine hK _ _ ?_; clear hK K)
          (refine q_write_n rfl (fun K hK => ?_); go_simp; intro nw; refine ((HC.out _).no HXX.out).mono ?_; rintro e w3 ⟨rfl, hb3⟩; obtain ⟨w3, rfl⟩ : ∃ w5, w3 = World.drewN w5 0 := ⟨w3, rfl⟩; have HB3 : Hid (Below w.heap.size w w3) := Lib.hid ((below_drewN HB.out _).trans (hb3.mono HB.out.size)); clear hb3; refine ⟨_, rfl, _, ⟨_, rfl⟩, hK _ _ ?_⟩; clear hK K)
          (refine q_pure_n rfl (fun K hK => ?_); go_simp; refine hK _ _ ?_; clear hK K)
          refine q_nil ?_
          intro nq
          go_wp2_with fail
          go_ret
          exact ⟨by rw [pb_false HN.out]; rfl, below_drewN HB3.out _⟩
      · have hkL : k = L := by omega
        have HK := Lib.hid hkL
        clear hkL
        go_wp2_with fail
        go_ret
        refine ⟨?_, HB.out⟩
        rw [pb_true (List.ext_getElem? fun j => by
          by_cases hj : j < L
          · exact HE.out j (by have := HK.out; omega)
          · rw [List.getElem?_eq_none (by have := HL.out; omega), List.getElem?_eq_none (by have := HM.out; omega)])]
        rfl
  · have hlm' : ¬ ((l.length : Int) = (m.length : Int)) := by omega
    have HN : Hid (l ≠ m) := Lib.hid (fun e => hlm (by rw [e]))
    clear hT hU
    go_enter Try.func106, Try.ntmps106
    go_wp2_with fail
    go_ret
    exact ⟨by rw [pb_false HN.out]; rfl, Below.refl _ _⟩
set_option maxHeartbeats 2000000 in
set_option maxRecDepth 100000 in
theorem same_entries (l m : List En) (v u : Value) (w : World) (hT : EntriesAt w w.heap.size v l) (hU : EntriesAt w w.heap.size u m) (hl : l.length ≤ 140737488351232) (hp : ∀ z ∈ l, z.pairs.length ≤ 140737488351232) :
    Asks 107 #[v, u] w (l = m) := by
  obtain ⟨A, c, rfl, hT⟩ := hT
  obtain ⟨E, d, rfl, hU⟩ := hU
  unfold Asks
  by_cases hlm : l.length = m.length
  · obtain ⟨L, hL⟩ : ∃ L, L = l.length := ⟨_, rfl⟩
    have HL := Lib.hid hL
    have HM := Lib.hid (hL.trans hlm)
    rw [← hlm, ← hL]
    rw [← hL] at hl
    have HT := Lib.hid hT
    have HU := Lib.hid hU
    clear hL hT hU hlm
    have HFF := Lib.hid hp
    clear hp
    go_enter Try.func107, Try.ntmps107
    go_wp2_with fail
    go_loopw [5] (fun i wr => ∃ k : Nat, k ≤ L ∧ i = .int .i64 k ∧ Hid (∀ j, j < k → l[j]? = m[j]?) ∧ Hid (Below w.heap.size w wr)) (fun i _ => L - (intOf i).toNat)
    case atStart => exact ⟨0, Nat.zero_le _, rfl, Lib.hid (fun j h => absurd h (Nat.not_lt_zero _)), Lib.hid (Below.refl _ _)⟩
    case round =>
      obtain ⟨k, hk, rfl, HE, HB⟩ := hrel
      by_cases hlt : (k : Int) < (L : Int)
      · have hkl : k < l.length := by have := HL.out; omega
        have hkm : k < m.length := by have := HM.out; omega
        obtain ⟨r, o, rfl, hr, hc⟩ := HT.out (by omega)
        obtain ⟨p, q, rfl, hp, hd⟩ := HU.out (by omega)
        obtain ⟨x, hx⟩ : ∃ x, x = l[k] := ⟨_, rfl⟩
        obtain ⟨y, hy⟩ : ∃ y, y = m[k] := ⟨_, rfl⟩
        have HX := Lib.hid hx
        have HY := Lib.hid hy
        have hck := hc k hkl
        have hdk := hd k hkm
        rw [← hx] at hck
        rw [← hy] at hdk
        have HXY : Hid (x ≠ y → l ≠ m) := Lib.hid (fun h e => h (by subst e; rw [HX.out, HY.out]))
        have HST : Hid (x = y → ∀ j, j < k + 1 → l[j]? = m[j]?) := Lib.hid (fun h j hj => by
          rcases Nat.lt_or_ge j k with h' | h'
          · exact HE.out j h'
          · obtain rfl : j = k := by omega
            rw [List.getElem?_eq_getElem hkl, List.getElem?_eq_getElem hkm, ← HX.out, ← HY.out, h])
        obtain ⟨xc1, xc2, xv, xc3, xc4⟩ := hck
        have x1 : wr.cell? ⟨r, o + k * 3, none⟩ = some (.int .u64 (x.ms : Int)) := (HB.out.cell (p := ⟨r, _, none⟩) hr).trans xc1
        have x2 : wr.cell? ⟨r, o + k * 3 + 1, none⟩ = some (.int .u64 (x.seq : Int)) := (HB.out.cell (p := ⟨r, _, none⟩) hr).trans xc2
        have x3 : wr.cell? ⟨r, o + k * 3 + 2, none⟩ = some xv := (HB.out.cell (p := ⟨r, _, none⟩) hr).trans xc3
        have x4 := Lib.hid ((xc4.below HB.out).more HB.out.size)
        clear xc1 xc2 xc3 xc4
        obtain ⟨yc1, yc2, yv, yc3, yc4⟩ := hdk
        have y1 : wr.cell? ⟨p, q + k * 3, none⟩ = some (.int .u64 (y.ms : Int)) := (HB.out.cell (p := ⟨p, _, none⟩) hp).trans yc1
        have y2 : wr.cell? ⟨p, q + k * 3 + 1, none⟩ = some (.int .u64 (y.seq : Int)) := (HB.out.cell (p := ⟨p, _, none⟩) hp).trans yc2
        have y3 : wr.cell? ⟨p, q + k * 3 + 2, none⟩ = some yv := (HB.out.cell (p := ⟨p, _, none⟩) hp).trans yc3
        have y4 := Lib.hid ((yc4.below HB.out).more HB.out.size)
        clear yc1 yc2 yc3 yc4
        have HC := Lib.hid (fun n => same_entry x y xv yv (wr.drewN n) x4.out y4.out (by rw [hx]; exact HFF.out _ (List.getElem_mem hkl)))
        clear hx hy hc hd
        by_cases hxy : x = y
        · have HS := Lib.hid (HST.out hxy)
          have HXX := Lib.hid hxy
          clear hxy
          go_wp2_with fail
          refine wp_region_q [0,0,0,1,0,0,0,1,2,0] (by kernel_rfl) (by kernel_rfl) ?_
          (refine q_pure_n rfl (fun K hK => ?_); go_simp; refine hK _ _ ?_; clear hK K)
          (refine q_pure_n rfl (fun K hK => ?_); go_simp; refine hK _ _ ?_; clear hK K)
          (refine q_pure_n rfl (fun K hK => ?_); go_simp; refine hK _ _ ?_; clear hK K)
          (refine q_read_n rfl (fun K hK => ?_); go_simp; refine hK _ _ ?_; clear hK K)
          (refine q_pure_n rfl (fun K hK => ?_); go_simp; refine hK _ _ ?_; clear hK K)
          (refine q_pure_n rfl (fun K hK => ?_); go_simp; refine hK _ _ ?_; clear hK K)
          (refine q_pure_n rfl (fun K hK => ?_); go_simp; refine hK _ _ ?_; clear hK K)
          (refine q_read_n rfl (fun K hK => ?_); go_simp; refine hK _ _ ?_; clear hK K)
          (refine q_write_n rfl (fun K hK => ?_); go_simp; intro nw; refine ((HC.out _).yes HXX.out).mono ?_; rintro e w3 ⟨rfl, hb3⟩; obtain ⟨w3, rfl⟩ : ∃ w5, w3 = World.drewN w5 0 := ⟨w3, rfl⟩; have HB3 : Hid (Below w.heap.size w w3) := Lib.hid ((below_drewN HB.out _).trans (hb3.mono HB.out.size)); clear hb3; refine ⟨_, rfl, _, ⟨_, rfl⟩, hK _ _ ?_⟩; clear hK K)
          (refine q_pure_n rfl (fun K hK => ?_); go_simp; refine hK _ _ ?_; clear hK K)
          refine q_nil ?_
          intro nq
          go_wp2_with fail
          exact ⟨⟨k + 1, by omega, by go_num, HS, Lib.hid (below_drewN HB3.out _)⟩, by simp [intOf]; omega⟩
        · have HN := Lib.hid (HXY.out hxy)
          have HXX := Lib.hid hxy
          clear hxy
          go_wp2_with fail
          refine wp_region_q [0,0,0,1,0,0,0,1,2,0] (by kernel_rfl) (by kernel_rfl) ?_
          (refine q_pure_n rfl (fun K hK => ?_); go_simp; refine hK _ _ ?_; clear hK K)
          (refine q_pure_n rfl (fun K hK => ?_); go_simp; refine hK _ _ ?_; clear hK K)
          (refine q_pure_n rfl (fun K hK => ?_); go_simp; refine hK _ _ ?_; clear hK K)
          (refine q_read_n rfl (fun K hK => ?_); go_simp; refine hK _ _ ?_; clear hK K)
          (refine q_pure_n rfl (fun K hK => ?_); go_simp; refine hK _ _ ?_; clear hK K)
          (refine q_pure_n rfl (fun K hK => ?_); go_simp; refine hK _ _ ?_; clear hK K)
          (refine q_pure_n rfl (fun K hK => ?_); go_simp; refine hK _ _ ?_; clear hK K)
          (refine q_read_n rfl (fun K hK => ?_); go_simp; refine hK _ _ ?_; clear hK K)
          (refine q_write_n rfl (fun K hK => ?_); go_simp; intro nw; refine ((HC.out _).no HXX.out).mono ?_; rintro e w3 ⟨rfl, hb3⟩; obtain ⟨w3, rfl⟩ : ∃ w5, w3 = World.drewN w5 0 := ⟨w3, rfl⟩; have HB3 : Hid (Below w.heap.size w w3) := Lib.hid ((below_drewN HB.out _).trans (hb3.mono HB.out.size)); clear hb3; refine ⟨_, rfl, _, ⟨_, rfl⟩, hK _ _ ?_⟩; clear hK K)
          (refine q_pure_n rfl (fun K hK => ?_); go_simp; refine hK _ _ ?_; clear hK K)
          refine q_nil ?_
          intro nq
          go_wp2_with fail
          go_ret
          exact ⟨by rw [pb_false HN.out]; rfl, below_drewN HB3.out _⟩
      · have hkL : k = L := by omega
        have HK := Lib.hid hkL
        clear hkL
        go_wp2_with fail
        go_ret
        refine ⟨?_, HB.out⟩
        rw [pb_true (List.ext_getElem? fun j => by
          by_cases hj : j < L
          · exact HE.out j (by have := HK.out; omega)
          · rw [List.getElem?_eq_none (by have := HL.out; omega), List.getElem?_eq_none (by have := HM.out; omega)])]
        rfl
  · have hlm' : ¬ ((l.length : Int) = (m.length : Int)) := by omega
    have HN : Hid (l ≠ m) := Lib.hid (fun e => hlm (by rw [e]))
    clear hT hU
    go_enter Try.func107, Try.ntmps107
    go_wp2_with fail
    go_ret
    exact ⟨by rw [pb_false HN.out]; rfl, Below.refl _ _⟩
end Go.Proofs.Ytpnmhldaaaemeaa.Snp
