/- The walk of DictOnce: it answers true. -/
import Derived.Test.YtnoalklbgncajaaDba07
namespace Go.Proofs.Ytnoalklbgncajaa.DictOnce
open Go Go.MapKept Go.RowKit Go.Proofs.Ytnoalklbgncajaa.Pin Go.Proofs.Ytnoalklbgncajaa.Mps Go.Proofs.Ytnoalklbgncajaa.Bok Go.Proofs.Ytnoalklbgncajaa.Uw Go.Proofs.Ytnoalklbgncajaa.Sip Go.Proofs.Ytnoalklbgncajaa.Dct
attribute [local go_sem high] run_store_U cells_U eqGuard_U asIntOf_U
/-- 2^a is the smaller table's size -/
structure Least (s : St) (a : Nat) : Prop where
  two : 2 ≤ a
  le : a ≤ 40
  p0 : 2 ^ a ≤ s.p0.length
  t1 : ∀ x, s.t1 = some x → 2 ^ a ≤ x.2.length
  one : 2 ^ a = s.p0.length ∨ ∃ x, s.t1 = some x ∧ 2 ^ a = x.2.length
theorem Least.only {s : St} {a b : Nat} (h : Least s a) (h' : Least s b) : a = b := by
  have key : ∀ a b, Least s a → Least s b → 2 ^ a ≤ 2 ^ b := fun a b h h' => by
    rcases h'.one with e | ⟨x, hx, e⟩
    · rw [e]; exact h.p0
    · rw [e]; exact h.t1 x hx
  exact Nat.le_antisymm ((Nat.pow_le_pow_iff_right (a := 2) (by omega)).1 (key a b h h')) ((Nat.pow_le_pow_iff_right (a := 2) (by omega)).1 (key b a h' h))
theorem Least.small {s : St} {a : Nat} (h : Least s a) : 2 ^ a ≤ 1099511627776 := Nat.le_trans (Nat.pow_le_pow_right (by decide) h.le) (Nat.le_refl (2 ^ 40))
theorem Least.int {s : St} {a q : Nat} (h : Least s a) (hq : q < 2 ^ a) : (q : Int) < 1099511627776 := by
  have h1 : q < 1099511627776 := Nat.lt_of_lt_of_le hq h.small
  omega
theorem least_of {s : St} {w : World} {d : Nat} (hD : DAt w d s) (hI : Inv s) : ∃ a, Least s a := by
  obtain ⟨a, h1, h2, h3⟩ := pw_le hI.pow0 hD.len0.2
  cases ht : s.t1 with
  | none => exact ⟨a, h1, h2, by omega, fun x hx => (by rw [ht] at hx; cases hx), .inl h3.symm⟩
  | some x =>
    obtain ⟨b, k1, k2, k3⟩ := pw_le (hI.pow1 x ht) (hD.len1 x ht).2
    rcases Nat.le_total s.p0.length x.2.length with h | h
    · exact ⟨a, h1, h2, by omega, fun y hy => (by rw [ht] at hy; cases hy; omega), .inl h3.symm⟩
    · exact ⟨b, k1, k2, by omega, fun y hy => (by rw [ht] at hy; cases hy; omega), .inr ⟨x, ht, k3.symm⟩⟩
/-- what a scan tells, in a dict of which the smaller table is known -/
theorem ScanR.at {s : St} {v v' : BitVec 64} {L : List ByteArray} {a : Nat} (h : ScanR s v v' L) (ha : Least s a) : R v' = Eof a (R v) % 18446744073709551616 ∧
    (∀ k ∈ L, KeyIn k s.ents ∧ Hk s.sd k < Eof a (R v) ∧ (R v % 2 ^ (64 - a) = 0 → R v ≤ Hk s.sd k)) ∧
    (∀ k, KeyIn k s.ents → R v ≤ Hk s.sd k → Hk s.sd k < Eof a (R v) → k ∈ L) := by
  obtain ⟨b, h2, h40, h3, h4, h5, h6⟩ := h.shape
  obtain rfl : a = b := ha.only ⟨h2, h40, h3, h4, h5⟩
  exact h6
/-- the walk of a dict that stays, after j calls -/
structure Told (s : St) (a j : Nat) (c : BitVec 64) (L : List ByteArray) : Prop where
  cur : R c = j * 2 ^ (64 - a)
  lt : j < 2 ^ a
  nd : L.Nodup
  mem : ∀ k, k ∈ L ↔ KeyIn k s.ents ∧ Hk s.sd k < j * 2 ^ (64 - a)
theorem Told.eof {s : St} {a j : Nat} {c : BitVec 64} {L : List ByteArray} (h : Told s a j c L) : Eof a (R c) = (j + 1) * 2 ^ (64 - a) := by
  unfold Eof
  rw [h.cur, Nat.mul_div_cancel _ (Nat.two_pow_pos _)]
theorem two64 {a : Nat} (h : a ≤ 40) : 2 ^ a * 2 ^ (64 - a) = 18446744073709551616 := by
  rw [← Nat.pow_add, show a + (64 - a) = 64 by omega]
/-- one call more -/
theorem Told.more {s : St} {a j : Nat} {c c' : BitVec 64} {L Ls : List ByteArray} (h : Told s a j c L) (ha : Least s a) (hs : ScanR s c c' Ls) :
    (∀ k ∈ Ls, k ∉ L) ∧ (L ++ Ls).Nodup ∧ (∀ k, k ∈ L ++ Ls ↔ KeyIn k s.ents ∧ Hk s.sd k < (j + 1) * 2 ^ (64 - a)) ∧ (j + 1 < 2 ^ a → Told s a (j + 1) c' (L ++ Ls) ∧ c' ≠ 0#64) ∧ (j + 1 = 2 ^ a → c' = 0#64) := by
  obtain ⟨h1, h2, h3⟩ := ScanR.at hs ha
  rw [h.eof] at h1 h2 h3
  have hm : R c % 2 ^ (64 - a) = 0 := by rw [h.cur]; exact Nat.mul_mod_left _ _
  have e : (j + 1) * 2 ^ (64 - a) = j * 2 ^ (64 - a) + 2 ^ (64 - a) := Nat.succ_mul _ _
  have hp : 0 < 2 ^ (64 - a) := Nat.two_pow_pos _
  have h64 := two64 ha.le
  have hno : ∀ k ∈ Ls, k ∉ L := fun k hk hl => by
    have h4 := (h2 k hk).2.2 hm
    rw [h.cur] at h4
    have h5 := ((h.mem k).1 hl).2
    omega
  have hmem : ∀ k, k ∈ L ++ Ls ↔ KeyIn k s.ents ∧ Hk s.sd k < (j + 1) * 2 ^ (64 - a) := fun k => by
    rw [List.mem_append]
    constructor
    · rintro (hk | hk)
      · obtain ⟨h4, h5⟩ := (h.mem k).1 hk
        exact ⟨h4, by omega⟩
      · obtain ⟨h4, h5, _⟩ := h2 k hk
        exact ⟨h4, h5⟩
    · rintro ⟨hk, hlt⟩
      rcases Nat.lt_or_ge (Hk s.sd k) (j * 2 ^ (64 - a)) with h4 | h4
      · exact .inl ((h.mem k).2 ⟨hk, h4⟩)
      · exact .inr (h3 k hk (by rw [h.cur]; exact h4) hlt)
  have hnd : (L ++ Ls).Nodup := List.nodup_append.2 ⟨h.nd, hs.nd, fun x hx y hy e => hno y hy (e ▸ hx)⟩
  refine ⟨hno, hnd, hmem, fun hlt => ?_, fun heq => ?_⟩
  · have h5 : (j + 1) * 2 ^ (64 - a) < 18446744073709551616 := by rw [← h64]; exact Nat.mul_lt_mul_of_pos_right hlt hp
    rw [Nat.mod_eq_of_lt h5] at h1
    refine ⟨⟨h1, hlt, hnd, hmem⟩, fun e0 => ?_⟩
    have h6 := R_zero.2 e0
    rw [h1] at h6
    rcases Nat.mul_eq_zero.1 h6 with h7 | h7 <;> omega
  · rw [heq, h64] at h1
    exact R_zero.1 (by rw [h1])
/-- all has been told -/
theorem told_all {s : St} {a : Nat} {L : List ByteArray} (hI : Inv s) (ha : Least s a) (hnd : L.Nodup) (hm : ∀ k, k ∈ L ↔ KeyIn k s.ents ∧ Hk s.sd k < 2 ^ a * 2 ^ (64 - a)) : L.length = s.n := by
  have hp : L.Perm (s.ents.map (·.1)) := (List.perm_ext_iff_of_nodup hnd hI.nd).2 fun k => by
    rw [hm k, two64 ha.le]
    constructor
    · rintro ⟨⟨v, hv⟩, _⟩
      exact List.mem_map.2 ⟨_, hv, rfl⟩
    · intro hk
      obtain ⟨y, hy, rfl⟩ := List.mem_map.1 hk
      exact ⟨⟨y.2, hy⟩, Hk_lt _ _⟩
  rw [hp.length_eq, List.length_map, hI.cnt]
theorem SetR.len {k : ByteArray} {v : Int} {l l' : Ents} {e : Ending} (h : SetR k v l l' e) : l'.length ≤ l.length + 1 ∧ ∃ b, e = .returned (.bool b) := by
  rcases h with ⟨h0, v0, rest, h1, h2⟩ | ⟨h0, _, h1⟩
  · exact ⟨by rw [h1.length_eq, h2.length_eq]; simp, _, h0⟩
  · exact ⟨by rw [h1.length_eq]; simp, _, h0⟩
theorem DelR.len {k : ByteArray} {l l' : Ents} {e : Ending} (h : DelR k l l' e) : l'.length ≤ l.length ∧ ∃ b, e = .returned (.bool b) := by
  rcases h with ⟨h0, v0, h1⟩ | ⟨h0, _, h1⟩
  · exact ⟨by rw [h1.length_eq]; simp, _, h0⟩
  · exact ⟨by rw [h1.length_eq]; exact Nat.le_refl _, _, h0⟩
theorem nodup_len {α : Type} : ∀ (l l' : List α), l.Nodup → (∀ x ∈ l, x ∈ l') → l.length ≤ l'.length
  | [], _, _, _ => Nat.zero_le _
  | x :: l, l', hn, hs => by
    obtain ⟨a, b, rfl⟩ := List.append_of_mem (hs x List.mem_cons_self)
    obtain ⟨h1, h2⟩ := List.nodup_cons.1 hn
    have h3 := nodup_len l (a ++ b) h2 (fun y hy => by
      have h4 := hs y (List.mem_cons_of_mem _ hy)
      rcases List.mem_append.1 h4 with h4 | h4
      · exact List.mem_append_left _ h4
      · rcases List.mem_cons.1 h4 with rfl | h4
        · exact absurd hy h1
        · exact List.mem_append_right _ h4)
    rw [List.length_append] at h3
    rw [List.length_append, List.length_cons, List.length_cons]
    omega
/-- a row of the call's own, read -/
theorem row_tx {w : World} {B : Nat} {A : Option Addr} {n c : Nat} {L : List ByteArray} (h : w.ownsRow B 9 1 (.slice A n c) L.length (L.map Value.string)) : ∀ j (hj : j < L.length), ∃ g o, A = some ⟨g, o, none⟩ ∧ w.cell? ⟨g, o + j, none⟩ = some (.string L[j]) := by
  intro j hj
  rcases h.2 with ⟨h0, hn⟩ | ⟨g, cap, cur, e, hb, hg, _⟩
  · rw [hn] at hj; omega
  · have hA : A = some ⟨g, 0, none⟩ := by cases e; rfl
    have hn : n = L.length := by cases e; rfl
    subst hA
    subst hn
    refine ⟨g, 0, rfl, ?_⟩
    rw [Nat.zero_add, h.cellAt j (by omega)]
    simp [hj]
set_option maxHeartbeats 4000000 in
set_option maxRecDepth 100000 in
theorem walk (sd : BitVec 64) (A : Option Addr) (ks : List ByteArray) (cap : Nat) (n : Int) (w : World) (hT : TxAt w A ks) (hl : ks.length ≤ 281474976710656) (hs : ∀ k ∈ ks, k.size ≤ 140737488351232) (h0 : 0 ≤ n) (h255 : n ≤ 255) :
    Calls Try.prog 3 #[U sd, .slice A ks.length cap, .int .u8 n] w fun e w' => e = .returned (.bool true) ∧ Below w.heap.size w w' := by
  obtain ⟨i0, hi, hz0, hz1, hz2⟩ := info_parts sinfo
  have HI := Lib.hid hi
  have HZ0 := Lib.hid hz0
  have HZ1 := Lib.hid hz1
  have HZ2 := Lib.hid hz2
  clear hi hz0 hz1 hz2
  have HT := Lib.hid hT
  have HS := Lib.hid hs
  clear hT hs
  go_enter Try.func3, Try.ntmps3
  go_wp2_with fail
  refine (alive_any w).mono ?_
  rintro e w1 ⟨rfl, hb⟩
  have HB1 := Lib.hid hb
  clear hb
  by_cases h300 : (300 : Int) < (ks.length : Int)
  · go_wp2_with fail
    refine (alive_any w1).mono ?_
    rintro e w2 ⟨rfl, hb⟩
    have HB2 : Hid (Below w.heap.size w w2) := Lib.hid (HB1.out.trans (hb.mono HB1.out.size))
    clear hb
    go_wp2_with fail
    go_ret
    exact ⟨rfl, HB2.out⟩
  have HT1 := Lib.hid (HT.out.below HB1.out)
  go_wp2_with fail
  refine (tsize_any ks HT1.out hl).mono ?_
  rintro e w' ⟨⟨x, rfl, hx0, hx1⟩, rfl⟩
  go_wp2_with fail
  obtain ⟨W, hW⟩ : ∃ W, W = w1.alloc (.cells #[.int .i64 x] 3) := ⟨_, rfl⟩
  have HBW : Hid (Below w.heap.size w W) := Lib.hid (by rw [hW]; exact HB1.out.alloc HB1.out.size _)
  have hcW : W.cell? ⟨w1.heap.size, 0, none⟩ = some (.int .i64 x) := by rw [hW, Lib.cell_of_heap (heap_alloc_new w1 _)]; rfl
  rw [← hW]
  refine (beyond_one x hx0 hx1 1 w1.heap.size W hcW).mono ?_
  rintro e w' ⟨⟨b, rfl⟩, rfl⟩
  clear hW hcW
  cases b with
  | true =>
    go_wp2_with fail
    refine (alive_any W).mono ?_
    rintro e w2 ⟨rfl, hb⟩
    have HB2 : Hid (Below w.heap.size w w2) := Lib.hid (HBW.out.trans (hb.mono HBW.out.size))
    clear hb
    go_wp2_with fail
    go_ret
    exact ⟨rfl, HB2.out⟩
  | false =>
    clear HT1 hx0 hx1
    go_wp2_with fail
    refine (new_dk sd W).mono ?_
    rintro e w2 ⟨d, s0, rfl, hD, hsd, he, hn, _, hb⟩
    have HD0 : Hid (Dk w.heap.size w2 d s0) := Lib.hid ⟨hD.at', hD.inv, fun b hb => Nat.le_trans HBW.out.size (hD.own b hb), Nat.le_trans HBW.out.size hb.size⟩
    have HSD : Hid (s0.sd = sd) := Lib.hid hsd
    have HE0 := Lib.hid he
    have HB2 : Hid (Below w.heap.size w w2) := Lib.hid (HBW.out.trans (hb.mono HBW.out.size))
    have HLEN : Hid (ks.length ≤ 300) := Lib.hid (by omega)
    clear hD hsd he hn hb HBW
    go_wp2_with fail
    go_loopw [8] (fun i wr => ∃ (j : Nat) (s : St), j ≤ ks.length ∧ i = .int .i64 (j : Int) ∧ Hid (Dk w.heap.size wr d s ∧ s.sd = sd ∧ s.ents.length ≤ j ∧ Below w.heap.size w wr)) (fun i _ => ks.length - (intOf i).toNat)
    case atStart => exact ⟨0, s0, Nat.zero_le _, rfl, Lib.hid ⟨HD0.out, HSD.out, by rw [HE0.out]; exact Nat.zero_le _, HB2.out⟩⟩
    case round =>
      obtain ⟨j, s1, hj, rfl, HQ⟩ := hrel
      by_cases hlt : j < ks.length
      · obtain ⟨g, o, rfl, _, hc⟩ := HT.out.below HQ.out.2.2.2 j hlt
        obtain ⟨k, hk⟩ : ∃ k, k = ks[j] := ⟨_, rfl⟩
        rw [← hk] at hc
        have HKS : Hid (k.size ≤ 140737488351232) := Lib.hid (by rw [hk]; exact HS.out _ (List.getElem_mem hlt))
        have hltI : (j : Int) < (ks.length : Int) := by omega
        have HN1 : Hid (s1.n ≤ 274877906944) := Lib.hid (by rw [HQ.out.1.inv.cnt]; have h1 := HQ.out.2.2.1; have h2 := HLEN.out; omega)
        have HLT := Lib.hid hlt
        clear hk hlt
        go_wp2_with fail
        refine (set_dk HQ.out.1 k (j : Int) HKS.out HN1.out).mono ?_
        rintro e w3 ⟨s2, hD2, hsd2, hr, _, hb, _⟩
        obtain ⟨h1, b, rfl⟩ := SetR.len hr
        have HQ2 : Hid (Dk w.heap.size w3 d s2 ∧ s2.sd = sd ∧ s2.ents.length ≤ j + 1 ∧ Below w.heap.size w w3) := Lib.hid ⟨hD2, hsd2.trans HQ.out.2.1, by have := HQ.out.2.2.1; omega, HQ.out.2.2.2.trans hb⟩
        clear hD2 hsd2 hr hb h1
        go_wp2_with fail
        exact ⟨⟨j + 1, s2, HLT.out, by go_num, HQ2⟩, by have := HLT.out; simp only [intOf]; omega⟩
      · have hltI : ¬ ((j : Int) < (ks.length : Int)) := by omega
        clear hlt HD0 HSD HE0 HB2
        go_wp2_with fail
        have hq0 : 0 ≤ n % 8 := by omega
        have hq1 : n % 8 < 8 := by omega
        go_loopw [9] (fun i wr => ∃ (j : Nat) (s : St), j ≤ ks.length ∧ i = .int .i64 (j : Int) ∧ Hid (Dk w.heap.size wr d s ∧ s.sd = sd ∧ s.ents.length ≤ ks.length ∧ Below w.heap.size w wr)) (fun i _ => ks.length - (intOf i).toNat)
        case atStart => exact ⟨0, s1, Nat.zero_le _, rfl, Lib.hid ⟨HQ.out.1, HQ.out.2.1, by have := HQ.out.2.2.1; omega, HQ.out.2.2.2⟩⟩
        case round =>
          clear HQ
          obtain ⟨i, s1, hi, rfl, HQ⟩ := hrel
          by_cases hlt : (i : Int) < (ks.length : Int) - n % 8
          · have hlt2 : i < ks.length := by omega
            obtain ⟨g, o, rfl, _, hc⟩ := HT.out.below HQ.out.2.2.2 i hlt2
            obtain ⟨k, hk⟩ : ∃ k, k = ks[i] := ⟨_, rfl⟩
            rw [← hk] at hc
            have HKS : Hid (k.size ≤ 140737488351232) := Lib.hid (by rw [hk]; exact HS.out _ (List.getElem_mem hlt2))
            have hltI : (i : Int) < (ks.length : Int) := by omega
            have HN1 : Hid (s1.n ≤ 274877906944) := Lib.hid (by rw [HQ.out.1.inv.cnt]; have h1 := HQ.out.2.2.1; have h2 := HLEN.out; omega)
            have HLT := Lib.hid hlt2
            clear hk hlt2
            by_cases h3 : n % 3 = 0
            · have h3b : (n % 3 == 0) = true := by rw [beq_iff_eq]; exact h3
              go_wp2_with fail
              refine (delete_dk HQ.out.1 k HKS.out HN1.out).mono ?_
              rintro e w3 ⟨s2, hD2, hsd2, hr, hb, _⟩
              obtain ⟨h1, b, rfl⟩ := DelR.len hr
              have HQ2 : Hid (Dk w.heap.size w3 d s2 ∧ s2.sd = sd ∧ s2.ents.length ≤ ks.length ∧ Below w.heap.size w w3) := Lib.hid ⟨hD2, hsd2.trans HQ.out.2.1, by have := HQ.out.2.2.1; omega, HQ.out.2.2.2.trans hb⟩
              clear hD2 hsd2 hr hb h1
              go_wp2_with fail
              exact ⟨⟨i + 1, s2, HLT.out, by go_num, HQ2⟩, by have := HLT.out; simp only [intOf]; omega⟩
            · have h3b : (n % 3 == 0) = false := by rw [beq_eq_false_iff_ne]; exact h3
              go_wp2_with fail
              exact ⟨⟨i + 1, s1, HLT.out, by go_num, HQ⟩, by have := HLT.out; simp only [intOf]; omega⟩
          · go_wp2_with fail
            refine (step_dk HQ.out.1 (n / 16) (by omega)).mono ?_
            rintro e w3 ⟨rfl, s2, hD2, hsd2, hp2, _, _, hb, _⟩
            have HD2 := Lib.hid hD2
            have HSD2 : Hid (s2.sd = sd) := Lib.hid (hsd2.trans HQ.out.2.1)
            have HL2 : Hid (s2.ents.length ≤ 300) := Lib.hid (by rw [hp2.length_eq]; have h1 := HQ.out.2.2.1; have h2 := HLEN.out; omega)
            have HB3 : Hid (Below w.heap.size w w3) := Lib.hid (HQ.out.2.2.2.trans hb)
            clear hD2 hsd2 hp2 hb hlt
            go_wp2_with fail
            refine (slots_any HD2.out.at').mono ?_
            rintro e w4 ⟨rfl, hb⟩
            have HB4 : Hid (Below w.heap.size w w4) := Lib.hid (HB3.out.trans (hb.mono HD2.out.bnd))
            have HD4 := Lib.hid (HD2.out.below hb)
            obtain ⟨a, ha⟩ := least_of HD4.out.at' HD4.out.inv
            have HA := Lib.hid ha
            have HT0 : Hid (Told s2 a 0 0#64 []) := Lib.hid ⟨by rw [R_zero.2 rfl, Nat.zero_mul], Nat.two_pow_pos a, List.nodup_nil, fun k => ⟨fun h => (by cases h), fun h => by have := h.2; rw [Nat.zero_mul] at this; omega⟩⟩
            clear hb ha HD2 HB3 HQ
            go_wp2_with fail
            have hda : j = j := rfl
            clear hda
            go_loopw [12, 13, 14] (fun told cu i wr => ∃ (q : Nat) (c : BitVec 64) (L : List ByteArray), i = .int .i64 (q : Int) ∧ cu = U c ∧ Hid (Told s2 a q c L) ∧ Hid (wr.ownsRow w.heap.size 9 1 told L.length (L.map Value.string)) ∧ Hid (∀ b, told.ownBlock = some b → b ∉ s2.own d) ∧ Hid (Dk w.heap.size wr d s2 ∧ Below w.heap.size w wr)) (fun _ _ i _ => 2 ^ a - (intOf i).toNat)
            case atStart => exact ⟨0, 0#64, [], rfl, rfl, HT0, Lib.hid (World.ownsRow_nil _ _ _ _), Lib.hid (fun b e => by cases e), Lib.hid ⟨HD4.out, HB4.out⟩⟩
            case round =>
              obtain ⟨q, cu, L, rfl, rfl, HTD, HRW, HNO, HQ⟩ := hrel
              clear HT0 HD4 HB4
              have hq1 : (q : Int) < (s2.p0.length : Int) := by have h1 := HTD.out.lt; have h2 := HA.out.p0; omega
              have HSC := Lib.hid (scan_any HQ.out.1.at' HQ.out.1.inv cu (by rw [HQ.out.1.inv.cnt]; have := HL2.out; omega))
              go_wp2_with fail
              refine HSC.out.mono ?_
              rintro e w5 ⟨v', kv, Ls, rfl, hsc, hrow, hb⟩
              have HM := Lib.hid (Told.more HTD.out HA.out hsc)
              have HB5 : Hid (Below w.heap.size w w5) := Lib.hid (HQ.out.2.trans (hb.mono HQ.out.1.bnd))
              have HD5 : Hid (Dk w.heap.size w5 d s2) := Lib.hid (HQ.out.1.below hb)
              have hrw5 : w5.ownsRow w.heap.size 9 1 u12 L.length (L.map Value.string) := (Frm.of_below (own := fun _ => False) hb).row HRW.out (fun _ _ k => k)
              have HN5 : Hid (∀ b, u12.ownBlock = some b → b ∉ s2.own d) := HNO
              have HK5 := Lib.hid hrow
              obtain ⟨A1, cc1, hu, _⟩ := row_slice hrw5
              subst hu
              obtain ⟨A2, cc2, hkv, _⟩ := row_slice hrow
              subst hkv
              have HR5 := Lib.hid hrw5
              have HTX := Lib.hid (row_tx hrow)
              have HLS : Hid (Ls.length ≤ 300 ∧ L.length ≤ 300) := Lib.hid (by
                have h1 := HM.out.2.1
                have h2 : ∀ k ∈ L ++ Ls, k ∈ s2.ents.map (·.1) := fun k hk => by
                  obtain ⟨⟨v, hv⟩, _⟩ := (HM.out.2.2.1 k).1 hk
                  exact List.mem_map.2 ⟨_, hv, rfl⟩
                have h3 := nodup_len _ _ h1 h2
                have h4 := HL2.out
                rw [List.length_append, List.length_map] at h3
                omega)
              have hls : Ls.length ≤ 300 := HLS.out.1
              obtain ⟨W5, hW5⟩ : ∃ W5, W5 = w5 := ⟨_, rfl⟩
              have HW5 := Lib.hid hW5
              clear hsc hrow hb hrw5 HRW HNO HQ HSC hW5
              go_wp2_with fail
              go_loopw [17] (fun i wr => Hid (wr = w5) ∧ ∃ p : Nat, p ≤ Ls.length ∧ i = .int .i64 (p : Int)) (fun i _ => Ls.length - (intOf i).toNat)
              case atStart => exact ⟨Lib.hid rfl, 0, Nat.zero_le _, rfl⟩
              case round =>
                obtain ⟨HWE, p, hp, rfl⟩ := hrel
                have e := HWE.out
                subst e
                clear HWE
                by_cases hpl : p < Ls.length
                · obtain ⟨g2, o2, rfl, hc2⟩ := HTX.out p hpl
                  obtain ⟨y, hy⟩ : ∃ y, y = Ls[p] := ⟨_, rfl⟩
                  rw [← hy] at hc2
                  have HYN : Hid (y ∉ L) := Lib.hid (HM.out.1 y (by rw [hy]; exact List.getElem_mem hpl))
                  have hplI : (p : Int) < (Ls.length : Int) := by omega
                  have HPL := Lib.hid hpl
                  have HHS := Lib.hid (has_any (c := cc1) L y (by have := HLS.out.2; omega) (row_tx HR5.out))
                  clear hy hpl
                  go_wp2_with fail
                  refine HHS.out.mono ?_
                  rintro e w' ⟨⟨b, rfl, hbb⟩, rfl⟩
                  have hbf : b = false := by
                    cases b with
                    | false => rfl
                    | true => exact absurd (hbb.1 rfl) HYN.out
                  subst hbf
                  clear hbb
                  go_wp2_with fail
                  exact ⟨⟨Lib.hid trivial, p + 1, HPL.out, by go_num⟩, by have := HPL.out; simp only [intOf]; omega⟩
                · have hplI : ¬ ((p : Int) < (Ls.length : Int)) := by omega
                  have HRB : Hid (∀ g, (Value.slice A1 L.length cc1).ownBlock = some g → w.heap.size ≤ g ∧ g < wr.heap.size) := Lib.hid (fun g hg => HR5.out.lt g hg)
                  clear hpl
                  go_wp2_with (at_builtin; refine wpList_append3 _ rfl _ _ 23 rfl w.heap.size 9 i0 (.string ⟨#[]⟩) 1 16 Try.underlying23 HI.out HZ0.out HZ1.out HZ2.out rfl (by decide) _ _ _ rfl HR5.out _ _ _ _ rfl HK5.out ?y1 ?y2 ?y3 ?y4 ?_)
                  case y1 => intro u hu; simp [Value.oneCell']
                  case y2 => have := HLS.out; unfold maxLen; omega
                  case y3 => have := HLS.out; omega
                  case y4 => exact HB5.out.size
                  intro v6 w6 hown hgr
                  have hF : Frm (fun b => (Value.slice A1 L.length cc1).ownBlock = some b) wr w6 := by
                    rcases hgr with ⟨_, k⟩ | ⟨_, k⟩
                    · exact (Frm.refl wr).grown k (fun b hb _ => hb)
                    · exact (Frm.refl wr).grown k (fun b hb _ => by cases hb)
                  have HR6 : Hid (w6.ownsRow w.heap.size 9 1 v6 (L ++ Ls).length ((L ++ Ls).map Value.string)) := Lib.hid (by rw [List.length_append, List.map_append]; exact hown)
                  have HQ6 : Hid (Dk w.heap.size w6 d s2 ∧ Below w.heap.size w w6) := Lib.hid ⟨HD5.out.frm hF (fun b hb e => HN5.out b e hb), HB5.out.trans ⟨hF.os, hF.tape, hF.output, hF.size, fun k hk => hF.block k (Nat.lt_of_lt_of_le hk HB5.out.size) (fun e => by have := (HRB.out k e).1; omega)⟩⟩
                  have HN6 : Hid (∀ b, v6.ownBlock = some b → b ∉ s2.own d) := Lib.hid (fun b hb hbm => by
                    rcases hgr with ⟨k, _⟩ | ⟨⟨r, k1, k2⟩, _⟩
                    · rw [k] at hb; exact HN5.out b hb hbm
                    · rw [k1] at hb
                      injection hb with hb
                      have := HD5.out.at'.own_lt b hbm
                      omega)
                  clear hown hgr hF
                  by_cases hend : q + 1 = 2 ^ a
                  · have hv0 : v' = 0#64 := HM.out.2.2.2.2 hend
                    have heq0 : ∀ (w : World) (t : TypeId), (binOp .eql t (U v') (.int .u64 0)).run Try.prog w = .ok (.bool true) w := fun w t => by
                      rw [hv0]
                      exact run_eql Try.prog t w 0#64 0#64
                    have HTL : Hid ((L ++ Ls).length = s2.n) := Lib.hid (told_all HD5.out.inv HA.out HM.out.2.1 (by rw [← hend]; exact HM.out.2.2.1))
                    clear hend hv0
                    go_wp2_with fail
                    refine (slots_any HQ6.out.1.at').mono ?_
                    rintro e w7 ⟨rfl, hb⟩
                    have HB7 : Hid (Below w.heap.size w w7) := Lib.hid (HQ6.out.2.trans (hb.mono HQ6.out.1.bnd))
                    have HD7 : Hid (Dk w.heap.size w7 d s2) := Lib.hid (HQ6.out.1.below hb)
                    have HLN := Lib.hid (len_any HD7.out.at')
                    obtain ⟨A6, cc6, hv6, _⟩ := row_slice HR6.out
                    subst hv6
                    rw [HTL.out]
                    clear hb
                    go_wp2_with fail
                    refine HLN.out.mono ?_
                    rintro e w8 ⟨rfl, rfl⟩
                    go_wp2_with fail
                    go_ret
                    exact ⟨rfl, HB7.out⟩
                  · have hv0 := HM.out.2.2.2.1 (by have := HTD.out.lt; omega)
                    have heq0 : ∀ (w : World) (t : TypeId), (binOp .eql t (U v') (.int .u64 0)).run Try.prog w = .ok (.bool false) w := fun w t => by
                      have h1 := run_eql Try.prog t w v' 0#64
                      have h2 : (v' == 0#64) = false := by rw [beq_eq_false_iff_ne]; exact hv0.2
                      rw [h2] at h1
                      exact h1
                    have HT6 := Lib.hid hv0.1
                    have HQL : Hid (q < 2 ^ a) := Lib.hid HTD.out.lt
                    clear hend hv0
                    have hqb : (q : Int) < 1099511627776 := HA.out.int HTD.out.lt
                    go_wp2_with fail
                    exact ⟨⟨q + 1, v', L ++ Ls, by go_num, rfl, HT6, HR6, HN6, HQ6⟩, by have := HQL.out; simp only [intOf]; omega⟩
end Go.Proofs.Ytnoalklbgncajaa.DictOnce
