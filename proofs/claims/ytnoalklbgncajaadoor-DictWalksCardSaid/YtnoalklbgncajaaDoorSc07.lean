/- Chapter 07: what a scan tells: plain law; a row sorted. -/
import Derived.Test.YtnoalklbgncajaaDoorDt07
import Derived.Test.YtnoalklbgncajaaDoorSrt07
import Derived.Sort.OwnSorted
namespace Go.Proofs.YtnoalklbgncajaaDoor.Dct
open Go Go.MapKept Go.RowKit Go.Proofs.YtnoalklbgncajaaDoor.Pin Go.Proofs.YtnoalklbgncajaaDoor.Mps Go.Proofs.YtnoalklbgncajaaDoor.Bok Go.Proofs.YtnoalklbgncajaaDoor.Uw Go.Proofs.YtnoalklbgncajaaDoor.Sip
/-- a key's hash, read from its highest bit -/
def Hk (sd : BitVec 64) (k : ByteArray) : Nat := R (sipP sd 0#64 k.data.toList)
theorem Hk_lt (sd : BitVec 64) (k : ByteArray) : Hk sd k < 18446744073709551616 := R_lt _
theorem and_mod (x : BitVec 64) (b : Nat) (hb : b ≤ 64) : (x &&& BitVec.ofNat 64 (2 ^ b - 1)).toNat = x.toNat % 2 ^ b := by
  have h0 : 2 ^ b ≤ 2 ^ 64 := Nat.pow_le_pow_right (by decide) hb
  have h1 : 0 < 2 ^ b := Nat.two_pow_pos b
  rw [BitVec.toNat_and, BitVec.toNat_ofNat, Nat.mod_eq_of_lt (by omega), Nat.and_two_pow_sub_one_eq_mod]
theorem plc_eq (sd : BitVec 64) (k : ByteArray) (c : BitVec 64) (b : Nat) (hb : b ≤ 64) : plc sd k (2 ^ b) = plcV c (2 ^ b) ↔ Hk sd k / 2 ^ (64 - b) = R c / 2 ^ (64 - b) := by
  unfold plc plcV Hk
  rw [and_mod _ b hb, and_mod _ b hb]
  exact place_eq _ _ b hb
theorem plE_at {ps : List Pl} {i : Nat} {z : Pl} (hz : ps[i]? = some z) : ∀ y ∈ plE z, ∃ b l, ps[i]? = some (some (b, l)) ∧ y ∈ l := by
  intro y hy
  cases z with
  | none => simp [plE] at hy
  | some q => exact ⟨q.1, q.2, hz, by simpa [plE] using hy⟩
theorem filter_place (f : ByteArray → Nat) : ∀ (ps : List Pl) (o i : Nat) (z : Pl), (∀ j z, ps[j]? = some z → ∀ y ∈ plE z, f y.1 = o + j) → ps[i]? = some z → (flat ps).filter (fun y => decide (f y.1 = o + i)) = plE z
  | [], o, i, z, _, h => by simp at h
  | q :: ps, o, 0, z, hj, h => by
    have e : q = z := by simpa using h
    subst e
    have h1 : (plE q).filter (fun y => decide (f y.1 = o + 0)) = plE q := List.filter_eq_self.2 (fun y hy => decide_eq_true (hj 0 q rfl y hy))
    have h2 : (flat ps).filter (fun y => decide (f y.1 = o + 0)) = [] := List.filter_eq_nil_iff.2 (fun y hy => by
      unfold flat at hy
      obtain ⟨z, hz, hy⟩ := List.mem_flatMap.1 hy
      obtain ⟨j, hj2⟩ := List.mem_iff_getElem?.1 hz
      have := hj (j + 1) z (by simpa using hj2) y hy
      simp
      omega)
    rw [flat_cons, List.filter_append, h1, h2, List.append_nil]
  | q :: ps, o, i + 1, z, hj, h => by
    have h1 : (plE q).filter (fun y => decide (f y.1 = o + (i + 1))) = [] := List.filter_eq_nil_iff.2 (fun y hy => by
      have := hj 0 q rfl y hy
      simp
      omega)
    have h2 := filter_place f ps (o + 1) i z (fun j z hz y hy => by have := hj (j + 1) z (by simpa using hz) y hy; omega) (by simpa using h)
    have h3 : (fun y : ByteArray × Int => decide (f y.1 = o + (i + 1))) = (fun y => decide (f y.1 = o + 1 + i)) := by
      funext y
      congr 1
      rw [show o + (i + 1) = o + 1 + i by omega]
    rw [flat_cons, List.filter_append, h1, h3, h2, List.nil_append]
/-- the entries of the place where a cursor is -/
theorem place_filter {sd : BitVec 64} {ps : List Pl} {b : Nat} {c : BitVec 64} {z : Pl} (hT : TOk sd ps) (hl : ps.length = 2 ^ b) (hb : b ≤ 64) (hz : ps[plcV c ps.length]? = some z) : plE z = (flat ps).filter (fun y => decide (Hk sd y.1 / 2 ^ (64 - b) = R c / 2 ^ (64 - b))) := by
  have h1 := filter_place (fun k => plc sd k ps.length) ps 0 _ z (fun j z hz y hy => by
    obtain ⟨b, l, h1, h2⟩ := plE_at hz y hy
    have := (hT j b l h1 y h2).1
    omega) hz
  rw [← h1]
  congr 1
  funext y
  congr 1
  rw [Nat.zero_add, hl]
  exact propext (plc_eq sd y.1 c b hb)
theorem filter_two {α : Type} (p q r : α → Bool) : ∀ (l : List α), (∀ x ∈ l, r x = (p x || q x)) → (∀ x ∈ l, ¬ (p x = true ∧ q x = true)) → (l.filter p ++ l.filter q).Perm (l.filter r)
  | [], _, _ => List.Perm.refl _
  | x :: l, h1, h2 => by
    have ih := filter_two p q r l (fun y hy => h1 y (by simp [hy])) (fun y hy => h2 y (by simp [hy]))
    have e1 := h1 x (by simp)
    have e2 := h2 x (by simp)
    rw [List.filter_cons, List.filter_cons, List.filter_cons, e1]
    cases hp : p x <;> cases hq : q x
    · simpa using ih
    · simp only [Bool.false_or, if_true, Bool.false_eq_true, if_false]
      exact List.perm_middle.trans (ih.cons x)
    · simp only [Bool.true_or, if_true, Bool.false_eq_true, if_false, List.cons_append]
      exact ih.cons x
    · exact absurd ⟨hp, hq⟩ e2
/-- the entries of a table told so far: those between lo and hi -/
def btwE (sd : BitVec 64) (l : Ents) (lo hi : Nat) : Ents := l.filter (fun y => decide (lo ≤ Hk sd y.1 ∧ Hk sd y.1 < hi))
theorem btwE_more (sd : BitVec 64) (l : Ents) (k t0 t : Nat) (h : t0 ≤ t) : (btwE sd l (t0 * 2 ^ k) (t * 2 ^ k) ++ l.filter (fun y => decide (Hk sd y.1 / 2 ^ k = t))).Perm (btwE sd l (t0 * 2 ^ k) ((t + 1) * 2 ^ k)) := by
  have h0 : 0 < 2 ^ k := Nat.two_pow_pos k
  have h1 : t0 * 2 ^ k ≤ t * 2 ^ k := Nat.mul_le_mul_right _ h
  have e : (t + 1) * 2 ^ k = t * 2 ^ k + 2 ^ k := Nat.succ_mul t _
  have key : ∀ x : Nat, x / 2 ^ k = t ↔ t * 2 ^ k ≤ x ∧ x < (t + 1) * 2 ^ k := fun x => by
    rw [Nat.div_eq_iff h0]
    constructor
    · rintro ⟨h2, h3⟩; omega
    · rintro ⟨h2, h3⟩; omega
  refine filter_two _ _ _ l (fun y _ => ?_) (fun y _ => ?_)
  · rw [← Bool.decide_or]
    refine decide_eq_decide.2 ?_
    rw [key]
    omega
  · rw [decide_eq_true_eq, decide_eq_true_eq, key]
    omega
theorem btwE_none (sd : BitVec 64) (l : Ents) (lo : Nat) : btwE sd l lo lo = [] := List.filter_eq_nil_iff.2 (fun y _ => by simp)
theorem btwE_len (sd : BitVec 64) (l : Ents) (lo hi : Nat) : (btwE sd l lo hi).length ≤ l.length := List.length_filter_le _ _
/-- where a scan at C ends, in tables of which the smaller has 2^a places -/
def Eof (a C : Nat) : Nat := (C / 2 ^ (64 - a) + 1) * 2 ^ (64 - a)
/-- what a scan tells: the smaller table's place, the greater one's places -/
structure ScanR (s : St) (v v' : BitVec 64) (L : List ByteArray) : Prop where
  nd : L.Nodup
  srt : L.Pairwise (fun x y => x.data.toList ≤ y.data.toList)
  shape : ∃ a, 2 ≤ a ∧ a ≤ 40 ∧ 2 ^ a ≤ s.p0.length ∧ (∀ x, s.t1 = some x → 2 ^ a ≤ x.2.length) ∧ (2 ^ a = s.p0.length ∨ ∃ x, s.t1 = some x ∧ 2 ^ a = x.2.length) ∧
    R v' = Eof a (R v) % 18446744073709551616 ∧
    (∀ k ∈ L, KeyIn k s.ents ∧ Hk s.sd k < Eof a (R v) ∧ (R v % 2 ^ (64 - a) = 0 → R v ≤ Hk s.sd k)) ∧
    (∀ k, KeyIn k s.ents → R v ≤ Hk s.sd k → Hk s.sd k < Eof a (R v) → k ∈ L)
theorem Eof_lt (a C : Nat) : C < Eof a C := by
  unfold Eof
  have h0 : 0 < 2 ^ (64 - a) := Nat.two_pow_pos _
  have := Nat.lt_div_mul_add (a := C) h0
  rw [Nat.succ_mul]
  exact this
theorem Eof_le (a C : Nat) (ha : a ≤ 64) (hC : C < 18446744073709551616) : Eof a C ≤ 18446744073709551616 := by
  unfold Eof
  have e : (18446744073709551616 : Nat) = 2 ^ a * 2 ^ (64 - a) := by rw [← Nat.pow_add, show a + (64 - a) = 64 by omega]
  have h1 : C / 2 ^ (64 - a) < 2 ^ a := by
    refine Nat.div_lt_of_lt_mul ?_
    rw [Nat.mul_comm, ← e]
    exact hC
  rw [e]
  exact Nat.mul_le_mul_right _ h1
theorem Eof_iff (a C x : Nat) : x / 2 ^ (64 - a) = C / 2 ^ (64 - a) ↔ C / 2 ^ (64 - a) * 2 ^ (64 - a) ≤ x ∧ x < Eof a C := by
  unfold Eof
  have h0 : 0 < 2 ^ (64 - a) := Nat.two_pow_pos _
  rw [Nat.div_eq_iff h0, Nat.succ_mul]
  omega
theorem floor_le (k C : Nat) : C / 2 ^ k * 2 ^ k ≤ C := Nat.div_mul_le_self C _
theorem floor_self {k C : Nat} (h : C % 2 ^ k = 0) : C / 2 ^ k * 2 ^ k = C := Nat.div_mul_cancel (Nat.dvd_of_mod_eq_zero h)
/-- the place where a cursor is, as a stretch of hashes -/
theorem place_btw (sd : BitVec 64) (l : Ents) (a : Nat) (C : Nat) : l.filter (fun y => decide (Hk sd y.1 / 2 ^ (64 - a) = C / 2 ^ (64 - a))) = btwE sd l (C / 2 ^ (64 - a) * 2 ^ (64 - a)) (Eof a C) := by
  unfold btwE
  congr 1
  funext y
  congr 1
  exact propext (Eof_iff a C _)
theorem btw_mem {sd : BitVec 64} {l : Ents} {lo hi : Nat} {k : ByteArray} : k ∈ (btwE sd l lo hi).map (·.1) ↔ KeyIn k l ∧ lo ≤ Hk sd k ∧ Hk sd k < hi := by
  unfold btwE
  constructor
  · intro h
    obtain ⟨y, hy, rfl⟩ := List.mem_map.1 h
    obtain ⟨h1, h2⟩ := List.mem_filter.1 hy
    exact ⟨⟨y.2, h1⟩, of_decide_eq_true h2⟩
  · rintro ⟨⟨v, hv⟩, h⟩
    exact List.mem_map.2 ⟨(k, v), List.mem_filter.2 ⟨hv, decide_eq_true h⟩, rfl⟩
theorem scan_fin {s : St} (hI : Inv s) {v v' : BitVec 64} {L : List ByteArray} {l1 l2 : Ents} {a lo1 lo2 : Nat} (he : s.ents.Perm (l1 ++ l2)) (ha : 2 ≤ a) (ha2 : a ≤ 40) (h0 : 2 ^ a ≤ s.p0.length) (h1 : ∀ x, s.t1 = some x → 2 ^ a ≤ x.2.length) (hone : 2 ^ a = s.p0.length ∨ ∃ x, s.t1 = some x ∧ 2 ^ a = x.2.length)
    (hv : R v' = Eof a (R v) % 18446744073709551616) (hl1 : lo1 ≤ R v ∧ (R v % 2 ^ (64 - a) = 0 → lo1 = R v)) (hl2 : lo2 ≤ R v ∧ (R v % 2 ^ (64 - a) = 0 → lo2 = R v))
    (hL : L.Perm ((btwE s.sd l1 lo1 (Eof a (R v))).map (·.1) ++ (btwE s.sd l2 lo2 (Eof a (R v))).map (·.1))) (hs : L.Pairwise (fun x y => x.data.toList ≤ y.data.toList)) : ScanR s v v' L := by
  have hmem : ∀ k, KeyIn k s.ents ↔ KeyIn k l1 ∨ KeyIn k l2 := fun k => by
    constructor
    · rintro ⟨u, hu⟩
      exact (List.mem_append.1 (he.mem_iff.1 hu)).imp (fun h => ⟨u, h⟩) (fun h => ⟨u, h⟩)
    · rintro (⟨u, hu⟩ | ⟨u, hu⟩)
      · exact ⟨u, he.mem_iff.2 (List.mem_append_left _ hu)⟩
      · exact ⟨u, he.mem_iff.2 (List.mem_append_right _ hu)⟩
  refine ⟨?_, hs, a, ha, ha2, h0, h1, hone, hv, fun k hk => ?_, fun k hk h3 h4 => ?_⟩
  · have hn := nd_perm he hI.nd
    rw [List.map_append] at hn
    refine hL.nodup_iff.2 (hn.sublist ?_)
    exact (List.Sublist.map _ List.filter_sublist).append (List.Sublist.map _ List.filter_sublist)
  · rcases List.mem_append.1 (hL.mem_iff.1 hk) with hk | hk
    · obtain ⟨h2, h3, h4⟩ := btw_mem.1 hk
      exact ⟨(hmem k).2 (.inl h2), h4, fun e => by rw [← hl1.2 e]; exact h3⟩
    · obtain ⟨h2, h3, h4⟩ := btw_mem.1 hk
      exact ⟨(hmem k).2 (.inr h2), h4, fun e => by rw [← hl2.2 e]; exact h3⟩
  · refine hL.mem_iff.2 (List.mem_append.2 ?_)
    rcases (hmem k).1 hk with hk | hk
    · exact .inl (btw_mem.2 ⟨hk, Nat.le_trans hl1.1 h3, h4⟩)
    · exact .inr (btw_mem.2 ⟨hk, Nat.le_trans hl2.1 h3, h4⟩)
/-- a row of texts, sorted -/
def sortT (L : List ByteArray) : List ByteArray := ((L.map (·.data.toList)).mergeSort (fun x y => decide (x ≤ y))).map (fun b => ⟨b.toArray⟩)
theorem sortT_perm (L : List ByteArray) : (sortT L).Perm L := by
  have h := (List.mergeSort_perm (L.map (·.data.toList)) (fun x y => decide (x ≤ y))).map (fun b => (⟨b.toArray⟩ : ByteArray))
  refine h.trans ?_
  rw [List.map_map]
  have : ((fun b => (⟨b.toArray⟩ : ByteArray)) ∘ fun x : ByteArray => x.data.toList) = id := by funext x; rfl
  rw [this, List.map_id]
theorem sortT_sorted (L : List ByteArray) : (sortT L).Pairwise (fun x y => x.data.toList ≤ y.data.toList) := by
  have h := List.pairwise_mergeSort (le := fun x y : List UInt8 => decide (x ≤ y)) (fun a b c h1 h2 => decide_eq_true (List.le_trans (of_decide_eq_true h1) (of_decide_eq_true h2))) (fun a b => by
    rcases List.le_total a b with h | h
    · simp [h]
    · simp [h]) (L.map (·.data.toList))
  unfold sortT
  rw [List.pairwise_map]
  exact h.imp (fun h => of_decide_eq_true h)
/-- slices.Sort on a row of a slice's own -/
theorem sort_row {w : World} {B : Nat} {kv : Value} {L : List ByteArray} (h : w.ownsRow B 9 1 kv L.length (L.map Value.string)) (hl : L.length < 4611686018427387904) :
    Calls Tryd.prog 22 #[kv] w fun e w' => e = .returned (.tuple #[]) ∧ w'.ownsRow B 9 1 kv L.length ((sortT L).map Value.string) ∧ w.grownBy w' kv.ownBlock := by
  obtain ⟨ss, hss⟩ : ∃ ss, ss = L.map (fun x : ByteArray => x.data.toList) := ⟨_, rfl⟩
  have hlen : ss.length = L.length := by rw [hss, List.length_map]
  have henc : L.map Value.string = ss.map Go.Proofs.encStr := by rw [hss, List.map_map]; rfl
  have hst : (sortT L).map Value.string = (ss.mergeSort (fun x y => decide (x ≤ y))).map Go.Proofs.encStr := by rw [hss]; unfold sortT; rw [List.map_map]; rfl
  have hs2 : ((ss.mergeSort (fun x y => decide (x ≤ y))).length) = ss.length := by simp
  rw [hst]
  rw [henc] at h
  rw [← hlen] at h ⊢
  rcases h.2 with ⟨rfl, h0⟩ | ⟨g, cap, cur, rfl, hbase, hb, h1, h2, h3, h4⟩
  · have e0 : ss.length = 0 := h0
    have e1 : ss = [] := List.eq_nil_of_length_eq_zero e0
    subst e1
    refine (Srt.slices_Sort_string_none none 0 w).mono ?_
    rintro e w' ⟨rfl, rfl⟩
    exact ⟨rfl, by rw [List.mergeSort_nil]; exact World.ownsRow_nil _ _ _ _, ⟨rfl, rfl, rfl, Nat.le_refl _, fun _ _ _ => rfl⟩⟩
  · refine (Srt.slices_Sort_string g 0 cap ss w (holds_of_block hb (by simpa using h4)) (Array.getElem?_eq_some_iff.1 hb).1 (by omega)).mono ?_
    rintro e w' ⟨rfl, n, os, rfl⟩
    exact ⟨rfl, ownsRow_sorted hs2 hbase hb h1 h2 h3, grownBy_sorted _⟩
end Go.Proofs.YtnoalklbgncajaaDoor.Dct
