/- Chapter 24: an api.Item, a slice of them: read as plain data. -/
import Derived.Test.YtpnmhldaaaemeaaRead
import Derived.Test.YtpnmhldaaaemeaaSizeI24
namespace Go.Proofs.Ytpnmhldaaaemeaa.Snp
open Go.RowKit Go.Proofs.Ytpnmhldaaaemeaa.Rdg
section
variable {H : Type} {enc : TypeId × Value → H} {w : World} {held : Bool}
def PrAt (p : Pr) (cs : List Value) : Prop := cs = [.string p.1, .string p.2] ∧ p.1.size ≤ 140737488351232 ∧ p.2.size ≤ 140737488351232
theorem one_of {cs : List Value} {o : Nat} {v : Value} (h : (cs.drop o).take 1 = [v]) : cs[o]? = some v := by
  have : ((cs.drop o).take 1)[0]? = some v := by rw [h]; rfl
  rw [List.getElem?_take] at this
  simpa using this
theorem of_ats {cs vs : List Value} (h : cs.length = vs.length) (hv : ∀ (i : Nat) (v : Value), vs[i]? = some v → cs[i]? = some v) : cs = vs := by
  refine List.ext_getElem? fun i => ?_
  by_cases hi : i < vs.length
  · rw [hv i _ (List.getElem?_eq_getElem hi), List.getElem?_eq_getElem hi]
  · rw [List.getElem?_eq_none (by omega), List.getElem?_eq_none (by omega)]
theorem rd_text : Rd enc Try.prog w held 9 StrAt := rd_string Try.underlying9
theorem rd_pair : Rd enc Try.prog w held 89 PrAt := by
  intro fuel cs x h hz
  obtain ⟨hl, hf⟩ := struct_field (α := ByteArray) Try.underlying89 h hz
  obtain ⟨a, ha, ha2⟩ := hf 0 _ rfl 9 0 1 rfl rfl (by kernel_rfl) StrAt rd_text
  obtain ⟨b, hb, hb2⟩ := hf 1 _ rfl 9 1 1 rfl rfl (by kernel_rfl) StrAt rd_text
  have hl2 : cs.length = 2 := hl.trans (by kernel_rfl)
  refine ⟨(a, b), of_ats hl2 fun i v hv => ?_, ha2, hb2⟩
  match i, hv with
  | 0, hv => obtain rfl : Value.string a = v := by simpa using hv
             exact one_of ha
  | 1, hv => obtain rfl : Value.string b = v := by simpa using hv
             exact one_of hb
def ScAt (p : Sc) (cs : List Value) : Prop := cs = [.string p.1, .float .f64 p.2] ∧ p.1.size ≤ 140737488351232 ∧ p.2 < 18446744073709551616
theorem rd_scored : Rd enc Try.prog w held 99 ScAt := by
  intro fuel cs x h hz
  obtain ⟨hl, hf⟩ := struct_field (α := ByteArray) Try.underlying99 h hz
  obtain ⟨_, hf2⟩ := struct_field (α := Nat) Try.underlying99 h hz
  obtain ⟨a, ha, ha2⟩ := hf 0 _ rfl 9 0 1 rfl rfl (by kernel_rfl) StrAt rd_text
  obtain ⟨b, hb, hb2⟩ := hf2 1 _ rfl 97 1 1 rfl rfl (by kernel_rfl) FltAt (rd_float Try.underlying97)
  have hl2 : cs.length = 2 := hl.trans (by kernel_rfl)
  refine ⟨(a, b), of_ats hl2 fun i v hv => ?_, ha2, hb2⟩
  match i, hv with
  | 0, hv => obtain rfl : Value.string a = v := by simpa using hv
             exact one_of ha
  | 1, hv => obtain rfl : Value.float .f64 b = v := by simpa using hv
             exact one_of hb
def IdAt (p : Nat × Nat) (cs : List Value) : Prop := cs = [.int .u64 (p.1 : Int), .int .u64 (p.2 : Int)] ∧ p.1 < 18446744073709551616 ∧ p.2 < 18446744073709551616
theorem rd_u64 : Rd enc Try.prog w held 27 (NatAt .u64 18446744073709551616) := rd_nat Try.underlying27 rfl rfl
theorem rd_id : Rd enc Try.prog w held 29 IdAt := by
  intro fuel cs x h hz
  obtain ⟨hl, hf⟩ := struct_field (α := Nat) Try.underlying29 h hz
  obtain ⟨a, ha, ha2⟩ := hf 0 _ rfl 27 0 1 rfl rfl (by kernel_rfl) _ rd_u64
  obtain ⟨b, hb, hb2⟩ := hf 1 _ rfl 27 1 1 rfl rfl (by kernel_rfl) _ rd_u64
  have hl2 : cs.length = 2 := hl.trans (by kernel_rfl)
  refine ⟨(a, b), of_ats hl2 fun i v hv => ?_, ha2, hb2⟩
  match i, hv with
  | 0, hv => obtain rfl : Value.int .u64 (a : Int) = v := by simpa using hv
             exact one_of ha
  | 1, hv => obtain rfl : Value.int .u64 (b : Int) = v := by simpa using hv
             exact one_of hb
theorem rd_texts : Rd enc Try.prog w held 23 (SlAt w 1 StrAt) := rd_slice Try.underlying23 (by kernel_rfl) (by decide) (b := 16) (by kernel_rfl) (by decide) rd_text
theorem rd_pairs : Rd enc Try.prog w held 24 (SlAt w 2 PrAt) := rd_slice Try.underlying24 (by kernel_rfl) (by decide) (b := 32) (by kernel_rfl) (by decide) rd_pair
theorem rd_scoreds : Rd enc Try.prog w held 25 (SlAt w 2 ScAt) := rd_slice Try.underlying25 (by kernel_rfl) (by decide) (b := 24) (by kernel_rfl) (by decide) rd_scored
theorem texts_of {l : List ByteArray} {cs : List Value} (h : SlAt w 1 StrAt l cs) : ∃ v, cs = [v] ∧ TextsAt w w.heap.size v l ∧ l.length ≤ 140737488351232 ∧ ∀ t ∈ l, t.size ≤ 140737488351232 := by
  obtain ⟨A, c, rfl, hl, h⟩ := h
  refine ⟨_, rfl, ⟨A, c, rfl, fun h0 => ?_⟩, hl, fun t ht => ?_⟩
  · obtain ⟨r, o, rfl, hr, h⟩ := h h0
    refine ⟨r, o, rfl, hr, fun j hj => ?_⟩
    obtain ⟨cs', ⟨rfl, _⟩, _, hc⟩ := h j hj
    simpa using hc 0 _ rfl
  · obtain ⟨j, hj, rfl⟩ := List.getElem_of_mem ht
    obtain ⟨r, o, rfl, hr, h⟩ := h (by omega)
    obtain ⟨cs', ⟨_, h2⟩, _, _⟩ := h j hj
    exact h2
theorem pairs_of {l : List Pr} {cs : List Value} (h : SlAt w 2 PrAt l cs) : ∃ v, cs = [v] ∧ PairsAt w w.heap.size v l ∧ l.length ≤ 140737488351232 ∧ ∀ t ∈ l, t.1.size ≤ 140737488351232 ∧ t.2.size ≤ 140737488351232 := by
  obtain ⟨A, c, rfl, hl, h⟩ := h
  refine ⟨_, rfl, ⟨A, c, rfl, fun h0 => ?_⟩, hl, fun t ht => ?_⟩
  · obtain ⟨r, o, rfl, hr, h⟩ := h h0
    refine ⟨r, o, rfl, hr, fun j hj => ?_⟩
    obtain ⟨cs', ⟨rfl, _⟩, _, hc⟩ := h j hj
    exact ⟨by simpa using hc 0 _ rfl, hc 1 _ rfl⟩
  · obtain ⟨j, hj, rfl⟩ := List.getElem_of_mem ht
    obtain ⟨r, o, rfl, hr, h⟩ := h (by omega)
    obtain ⟨cs', ⟨_, h2⟩, _, _⟩ := h j hj
    exact h2
theorem scoreds_of {l : List Sc} {cs : List Value} (h : SlAt w 2 ScAt l cs) : ∃ v, cs = [v] ∧ ScoredsAt w w.heap.size v l ∧ l.length ≤ 140737488351232 ∧ ∀ t ∈ l, t.1.size ≤ 140737488351232 ∧ t.2 < 18446744073709551616 := by
  obtain ⟨A, c, rfl, hl, h⟩ := h
  refine ⟨_, rfl, ⟨A, c, rfl, fun h0 => ?_⟩, hl, fun t ht => ?_⟩
  · obtain ⟨r, o, rfl, hr, h⟩ := h h0
    refine ⟨r, o, rfl, hr, fun j hj => ?_⟩
    obtain ⟨cs', ⟨rfl, _⟩, _, hc⟩ := h j hj
    exact ⟨by simpa using hc 0 _ rfl, hc 1 _ rfl⟩
  · obtain ⟨j, hj, rfl⟩ := List.getElem_of_mem ht
    obtain ⟨r, o, rfl, hr, h⟩ := h (by omega)
    obtain ⟨cs', ⟨_, h2⟩, _, _⟩ := h j hj
    exact h2
structure EnAt (w : World) (e : En) (cs : List Value) : Prop where
  ex : ∃ v, cs = [.int .u64 (e.ms : Int), .int .u64 (e.seq : Int), v] ∧ PairsAt w w.heap.size v e.pairs
  len : e.pairs.length ≤ 140737488351232
  pairs : ∀ t ∈ e.pairs, t.1.size ≤ 140737488351232 ∧ t.2.size ≤ 140737488351232
  ids : e.ms < 18446744073709551616 ∧ e.seq < 18446744073709551616
theorem take2_of {cs : List Value} {o : Nat} {u v : Value} (h : (cs.drop o).take 2 = [u, v]) : cs[o]? = some u ∧ cs[o + 1]? = some v := by
  have h0 : ((cs.drop o).take 2)[0]? = some u := by rw [h]; rfl
  have h1 : ((cs.drop o).take 2)[1]? = some v := by rw [h]; rfl
  rw [List.getElem?_take] at h0 h1
  exact ⟨by simpa using h0, by simpa using h1⟩
theorem rd_entry : Rd enc Try.prog w held 106 (EnAt w) := by
  intro fuel cs x h hz
  obtain ⟨hl, hf⟩ := struct_field (α := Nat × Nat) Try.underlying106 h hz
  obtain ⟨_, hf2⟩ := struct_field (α := List Pr) Try.underlying106 h hz
  obtain ⟨a, ha, ha2⟩ := hf 0 _ rfl 29 0 2 rfl rfl (by kernel_rfl) _ rd_id
  obtain ⟨b, hb⟩ := hf2 1 _ rfl 24 2 1 rfl rfl (by kernel_rfl) _ rd_pairs
  obtain ⟨v, hv, hP, hl', hs⟩ := pairs_of hb
  have hl2 : cs.length = 3 := hl.trans (by kernel_rfl)
  obtain ⟨h0, h1⟩ := take2_of ha
  have h2 := one_of hv
  refine ⟨⟨a.1, a.2, b⟩, ⟨v, of_ats hl2 fun i u hu => ?_, hP⟩, hl', hs, ha2⟩
  match i, hu with
  | 0, hu => obtain rfl : Value.int .u64 (a.1 : Int) = u := by simpa using hu
             exact h0
  | 1, hu => obtain rfl : Value.int .u64 (a.2 : Int) = u := by simpa using hu
             exact h1
  | 2, hu => obtain rfl : v = u := by simpa using hu
             exact h2
theorem rd_entries : Rd enc Try.prog w held 26 (SlAt w 3 (EnAt w)) := rd_slice Try.underlying26 (by kernel_rfl) (by decide) (b := 40) (by kernel_rfl) (by decide) rd_entry
theorem entries_of {l : List En} {cs : List Value} (h : SlAt w 3 (EnAt w) l cs) : ∃ v, cs = [v] ∧ EntriesAt w w.heap.size v l ∧ l.length ≤ 140737488351232 ∧ ∀ e ∈ l, e.pairs.length ≤ 140737488351232 ∧ (∀ t ∈ e.pairs, t.1.size ≤ 140737488351232 ∧ t.2.size ≤ 140737488351232) ∧ e.ms < 18446744073709551616 ∧ e.seq < 18446744073709551616 := by
  obtain ⟨A, c, rfl, hl, h⟩ := h
  refine ⟨_, rfl, ⟨A, c, rfl, fun h0 => ?_⟩, hl, fun t ht => ?_⟩
  · obtain ⟨r, o, rfl, hr, h⟩ := h h0
    refine ⟨r, o, rfl, hr, fun j hj => ?_⟩
    obtain ⟨cs', ⟨⟨v, rfl, hP⟩, _, _, _⟩, _, hc⟩ := h j hj
    exact ⟨by simpa using hc 0 _ rfl, hc 1 _ rfl, v, hc 2 _ rfl, hP⟩
  · obtain ⟨j, hj, rfl⟩ := List.getElem_of_mem ht
    obtain ⟨r, o, rfl, hr, h⟩ := h (by omega)
    obtain ⟨cs', ⟨_, h2, h3, h4⟩, _, _⟩ := h j hj
    exact ⟨h2, h3, h4⟩
/-- an item, as it is read -/
structure ItAt (w : World) (it : It) (cs : List Value) : Prop where
  ex : ∃ c, cs = icells it c ∧ ValAt w w.heap.size c it.val
  vab : VaB it.val
  itt : ItT it
  ids : ∀ e ∈ it.val.stream, e.ms < 18446744073709551616 ∧ e.seq < 18446744073709551616
  db : -9223372036854775808 ≤ it.db ∧ it.db ≤ 9223372036854775807
  dead : -9223372036854775808 ≤ it.dead ∧ it.dead ≤ 9223372036854775807
structure VaAt (w : World) (v : Va) (cs : List Value) : Prop where
  ex : ∃ c, cs = vcells v c ∧ ValAt w w.heap.size c v
  vab : VaB v
  vat : VaT v
  ids : ∀ e ∈ v.stream, e.ms < 18446744073709551616 ∧ e.seq < 18446744073709551616
set_option maxRecDepth 100000 in
theorem rd_value : Rd enc Try.prog w held 31 (VaAt w) := by
  intro fuel cs x h hz
  obtain ⟨hl, f0⟩ := struct_field (α := Nat) Try.underlying31 h hz
  obtain ⟨_, f1⟩ := struct_field (α := ByteArray) Try.underlying31 h hz
  obtain ⟨_, f2⟩ := struct_field (α := List ByteArray) Try.underlying31 h hz
  obtain ⟨_, f3⟩ := struct_field (α := List Pr) Try.underlying31 h hz
  obtain ⟨_, f5⟩ := struct_field (α := List Sc) Try.underlying31 h hz
  obtain ⟨_, f6⟩ := struct_field (α := List En) Try.underlying31 h hz
  obtain ⟨_, f7⟩ := struct_field (α := Nat × Nat) Try.underlying31 h hz
  obtain ⟨k, k1, k2⟩ := f0 0 _ rfl 22 0 1 rfl rfl (by kernel_rfl) (NatAt .u8 256) (rd_nat Try.underlying22 rfl rfl)
  obtain ⟨s, s1, s2⟩ := f1 1 _ rfl 9 1 1 rfl rfl (by kernel_rfl) _ rd_text
  obtain ⟨li, li1⟩ := f2 2 _ rfl 23 2 1 rfl rfl (by kernel_rfl) _ rd_texts
  obtain ⟨ha, ha1⟩ := f3 3 _ rfl 24 3 1 rfl rfl (by kernel_rfl) _ rd_pairs
  obtain ⟨se, se1⟩ := f2 4 _ rfl 23 4 1 rfl rfl (by kernel_rfl) _ rd_texts
  obtain ⟨zs, zs1⟩ := f5 5 _ rfl 25 5 1 rfl rfl (by kernel_rfl) _ rd_scoreds
  obtain ⟨st, st1⟩ := f6 6 _ rfl 26 6 1 rfl rfl (by kernel_rfl) _ rd_entries
  obtain ⟨id, id1, id2⟩ := f7 7 _ rfl 29 7 2 rfl rfl (by kernel_rfl) _ rd_id
  obtain ⟨lv, e2, L1, L2, L3⟩ := texts_of li1
  obtain ⟨hv, e3, H1, H2, H3⟩ := pairs_of ha1
  obtain ⟨sv, e4, S1, S2, S3⟩ := texts_of se1
  obtain ⟨zv, e5, Z1, Z2, Z3⟩ := scoreds_of zs1
  obtain ⟨ev, e6, E1, E2, E3⟩ := entries_of st1
  have c0 := one_of k1
  have c1 := one_of s1
  have c2 := one_of e2
  have c3 := one_of e3
  have c4 := one_of e4
  have c5 := one_of e5
  have c6 := one_of e6
  obtain ⟨c7, c8⟩ := take2_of id1
  have hl2 : cs.length = 9 := hl.trans (by kernel_rfl)
  refine ⟨⟨k, s, li, ha, se, zs, st, id.1, id.2⟩, ⟨⟨lv, hv, sv, zv, ev⟩, of_ats hl2 fun i u hu => ?_, ⟨L1, H1, S1, Z1, E1⟩⟩, ⟨k2, s2, L2, H2, S2, Z2, E2, fun e he => (E3 e he).1, fun z hz => (Z3 z hz).2, id2⟩, ⟨s2, L3, H3, S3, fun z hz => (Z3 z hz).1, fun e he => (E3 e he).2.1⟩, fun e he => (E3 e he).2.2⟩
  match i, hu with
  | 0, hu => obtain rfl := Option.some.inj hu; exact c0
  | 1, hu => obtain rfl := Option.some.inj hu; exact c1
  | 2, hu => obtain rfl := Option.some.inj hu; exact c2
  | 3, hu => obtain rfl := Option.some.inj hu; exact c3
  | 4, hu => obtain rfl := Option.some.inj hu; exact c4
  | 5, hu => obtain rfl := Option.some.inj hu; exact c5
  | 6, hu => obtain rfl := Option.some.inj hu; exact c6
  | 7, hu => obtain rfl := Option.some.inj hu; exact c7
  | 8, hu => obtain rfl := Option.some.inj hu; exact c8
set_option maxRecDepth 100000 in
theorem rd_item : Rd enc Try.prog w held 33 (ItAt w) := by
  intro fuel cs x h hz
  obtain ⟨hl, f0⟩ := struct_field (α := Int) Try.underlying33 h hz
  obtain ⟨_, f1⟩ := struct_field (α := ByteArray) Try.underlying33 h hz
  obtain ⟨_, f2⟩ := struct_field (α := Va) Try.underlying33 h hz
  obtain ⟨d, d1, d2⟩ := f0 0 _ rfl 3 0 1 rfl rfl (by kernel_rfl) _ (rd_int Try.underlying3)
  obtain ⟨s, s1, s2⟩ := f1 1 _ rfl 9 1 1 rfl rfl (by kernel_rfl) _ rd_text
  obtain ⟨v, ⟨c, v1, v2⟩, v3, v4, v5⟩ := f2 2 _ rfl 31 2 9 rfl rfl (by kernel_rfl) _ rd_value
  obtain ⟨t, t1, t2⟩ := f0 3 _ rfl 2 11 1 rfl rfl (by kernel_rfl) _ (rd_int Try.underlying2)
  have c0 := one_of d1
  have c1 := one_of s1
  have c3 := one_of t1
  have hl2 : cs.length = 12 := hl.trans (by kernel_rfl)
  refine ⟨⟨d, s, v, t⟩, ⟨c, of_ats hl2 fun i u hu => ?_, v2⟩, v3, ⟨s2, v4⟩, v5, d2, t2⟩
  have hv : ∀ i u, (vcells v c)[i]? = some u → cs[2 + i]? = some u := by
    intro i u hu
    rw [← v1, List.getElem?_take] at hu
    split at hu
    · rw [List.getElem?_drop] at hu
      exact hu
    · cases hu
  match i, hu with
  | 0, hu => obtain rfl := Option.some.inj hu; exact c0
  | 1, hu => obtain rfl := Option.some.inj hu; exact c1
  | 2, hu => exact hv 0 _ hu
  | 3, hu => exact hv 1 _ hu
  | 4, hu => exact hv 2 _ hu
  | 5, hu => exact hv 3 _ hu
  | 6, hu => exact hv 4 _ hu
  | 7, hu => exact hv 5 _ hu
  | 8, hu => exact hv 6 _ hu
  | 9, hu => exact hv 7 _ hu
  | 10, hu => exact hv 8 _ hu
  | 11, hu => obtain rfl := Option.some.inj hu; exact c3
theorem rd_items : Rd enc Try.prog w held 36 (SlAt w 12 (ItAt w)) := rd_slice Try.underlying36 (by kernel_rfl) (by decide) (b := 192) (by kernel_rfl) (by decide) rd_item
/-- what is known of items that were read -/
structure ItB (it : It) : Prop where
  vab : VaB it.val
  itt : ItT it
  ids : ∀ e ∈ it.val.stream, e.ms < 18446744073709551616 ∧ e.seq < 18446744073709551616
  db : -9223372036854775808 ≤ it.db ∧ it.db ≤ 9223372036854775807
  dead : -9223372036854775808 ≤ it.dead ∧ it.dead ≤ 9223372036854775807
theorem items_of {l : List It} {cs : List Value} (h : SlAt w 12 (ItAt w) l cs) : ∃ v, cs = [v] ∧ ItemsAt w w.heap.size v l ∧ l.length ≤ 140737488351232 ∧ ∀ e ∈ l, ItB e := by
  obtain ⟨A, c, rfl, hl, h⟩ := h
  refine ⟨_, rfl, ⟨A, c, rfl, fun h0 => ?_⟩, hl, fun t ht => ?_⟩
  · obtain ⟨r, o, rfl, hr, h⟩ := h h0
    refine ⟨r, o, rfl, hr, fun j hj => ?_⟩
    obtain ⟨cs', ⟨⟨cl, rfl, hP⟩, _, _, _, _, _⟩, _, hc⟩ := h j hj
    exact ⟨cl, fun i u hu => hc i u hu, hP⟩
  · obtain ⟨j, hj, rfl⟩ := List.getElem_of_mem ht
    obtain ⟨r, o, rfl, hr, h⟩ := h (by omega)
    obtain ⟨cs', ⟨_, h2, h3, h4, h5, h6⟩, _, _⟩ := h j hj
    exact ⟨h2, h3, h4, h5, h6⟩
end
end Go.Proofs.Ytpnmhldaaaemeaa.Snp
