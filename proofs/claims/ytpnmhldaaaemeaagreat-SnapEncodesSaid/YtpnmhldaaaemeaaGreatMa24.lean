import Derived.Test.YtpnmhldaaaemeaaGreatMa23
import Derived.Below
import Derived.ChangeSame
import Derived.ProofKit
import Derived.OpenShut
import Derived.Carry
/- Chapter 24: an api.Item, a slice of them: read as plain data. -/
namespace Go.Proofs.YtpnmhldaaaemeaaGreat.Snp
open Go.RowKit Go.Proofs.YtpnmhldaaaemeaaGreat.Rdg
section
variable {H : Type} {enc : TypeId × Value → H} {w : World} {held : Bool}
def PrAt (p : Pr) (cs : List Value) : Prop := cs = [.string p.1, .string p.2] ∧ p.1.size ≤ 140737488351232 ∧ p.2.size ≤ 140737488351232
theorem one_of {cs : List Value} {o : Nat} {v : Value} (h : (cs.drop o).take 1 = [v]) : cs[o]? = some v := by
  have : ((cs.drop o).take 1)[0]? = some v := by rw [h]; rfl
  rw [List.getElem?_take] at this
  simpa using this
theorem of_ats {cs vs : List Value} (h : cs.length = vs.length) (hv : ∀ (i : Nat) (v : Value), vs[i]? = some v → cs[i]? = some v) : cs = vs := by
  refine List.ext_getElem? fun i => ?_
  by_cases hi : i < vs.length
  · rw [hv i _ (List.getElem?_eq_getElem hi), List.getElem?_eq_getElem hi]
  · rw [List.getElem?_eq_none (by omega), List.getElem?_eq_none (by omega)]
theorem rd_text : Rd enc Tryz.prog w held 9 StrAt := rd_string Tryz.underlying9
theorem rd_pair : Rd enc Tryz.prog w held 78 PrAt := by
  intro fuel cs x h hz
  obtain ⟨hl, hf⟩ := struct_field (α := ByteArray) Tryz.underlying78 h hz
  obtain ⟨a, ha, ha2⟩ := hf 0 _ rfl 9 0 1 rfl rfl (by kernel_rfl) StrAt rd_text
  obtain ⟨b, hb, hb2⟩ := hf 1 _ rfl 9 1 1 rfl rfl (by kernel_rfl) StrAt rd_text
  have hl2 : cs.length = 2 := hl.trans (by kernel_rfl)
  refine ⟨(a, b), of_ats hl2 fun i v hv => ?_, ha2, hb2⟩
  match i, hv with
  | 0, hv => obtain rfl : Value.string a = v := by simpa using hv
             exact one_of ha
  | 1, hv => obtain rfl : Value.string b = v := by simpa using hv
             exact one_of hb
def ScAt (p : Sc) (cs : List Value) : Prop := cs = [.string p.1, .float .f64 p.2] ∧ p.1.size ≤ 140737488351232 ∧ p.2 < 18446744073709551616
theorem rd_scored : Rd enc Tryz.prog w held 88 ScAt := by
  intro fuel cs x h hz
  obtain ⟨hl, hf⟩ := struct_field (α := ByteArray) Tryz.underlying88 h hz
  obtain ⟨_, hf2⟩ := struct_field (α := Nat) Tryz.underlying88 h hz
  obtain ⟨a, ha, ha2⟩ := hf 0 _ rfl 9 0 1 rfl rfl (by kernel_rfl) StrAt rd_text
  obtain ⟨b, hb, hb2⟩ := hf2 1 _ rfl 86 1 1 rfl rfl (by kernel_rfl) FltAt (rd_float Tryz.underlying86)
  have hl2 : cs.length = 2 := hl.trans (by kernel_rfl)
  refine ⟨(a, b), of_ats hl2 fun i v hv => ?_, ha2, hb2⟩
  match i, hv with
  | 0, hv => obtain rfl : Value.string a = v := by simpa using hv
             exact one_of ha
  | 1, hv => obtain rfl : Value.float .f64 b = v := by simpa using hv
             exact one_of hb
def IdAt (p : Nat × Nat) (cs : List Value) : Prop := cs = [.int .u64 (p.1 : Int), .int .u64 (p.2 : Int)] ∧ p.1 < 18446744073709551616 ∧ p.2 < 18446744073709551616
theorem rd_u64 : Rd enc Tryz.prog w held 38 (NatAt .u64 18446744073709551616) := rd_nat Tryz.underlying38 rfl rfl
theorem rd_id : Rd enc Tryz.prog w held 40 IdAt := by
  intro fuel cs x h hz
  obtain ⟨hl, hf⟩ := struct_field (α := Nat) Tryz.underlying40 h hz
  obtain ⟨a, ha, ha2⟩ := hf 0 _ rfl 38 0 1 rfl rfl (by kernel_rfl) _ rd_u64
  obtain ⟨b, hb, hb2⟩ := hf 1 _ rfl 38 1 1 rfl rfl (by kernel_rfl) _ rd_u64
  have hl2 : cs.length = 2 := hl.trans (by kernel_rfl)
  refine ⟨(a, b), of_ats hl2 fun i v hv => ?_, ha2, hb2⟩
  match i, hv with
  | 0, hv => obtain rfl : Value.int .u64 (a : Int) = v := by simpa using hv
             exact one_of ha
  | 1, hv => obtain rfl : Value.int .u64 (b : Int) = v := by simpa using hv
             exact one_of hb
theorem rd_texts : Rd enc Tryz.prog w held 34 (SlAt w 1 StrAt) := rd_slice Tryz.underlying34 (by kernel_rfl) (by decide) (b := 16) (by kernel_rfl) (by decide) rd_text
theorem rd_pairs : Rd enc Tryz.prog w held 35 (SlAt w 2 PrAt) := rd_slice Tryz.underlying35 (by kernel_rfl) (by decide) (b := 32) (by kernel_rfl) (by decide) rd_pair
theorem rd_scoreds : Rd enc Tryz.prog w held 36 (SlAt w 2 ScAt) := rd_slice Tryz.underlying36 (by kernel_rfl) (by decide) (b := 24) (by kernel_rfl) (by decide) rd_scored
theorem texts_of {l : List ByteArray} {cs : List Value} (h : SlAt w 1 StrAt l cs) : ∃ v, cs = [v] ∧ TextsAt w w.heap.size v l ∧ l.length ≤ 140737488351232 ∧ ∀ t ∈ l, t.size ≤ 140737488351232 := by
  obtain ⟨A, c, rfl, hl, h⟩ := h
  refine ⟨_, rfl, ⟨A, c, rfl, fun h0 => ?_⟩, hl, fun t ht => ?_⟩
  · obtain ⟨r, o, rfl, hr, h⟩ := h h0
    refine ⟨r, o, rfl, hr, fun j hj => ?_⟩
    obtain ⟨cs', ⟨rfl, _⟩, _, hc⟩ := h j hj
    simpa using hc 0 _ rfl
  · obtain ⟨j, hj, rfl⟩ := List.getElem_of_mem ht
    obtain ⟨r, o, rfl, hr, h⟩ := h (by omega)
    obtain ⟨cs', ⟨_, h2⟩, _, _⟩ := h j hj
    exact h2
theorem pairs_of {l : List Pr} {cs : List Value} (h : SlAt w 2 PrAt l cs) : ∃ v, cs = [v] ∧ PairsAt w w.heap.size v l ∧ l.length ≤ 140737488351232 ∧ ∀ t ∈ l, t.1.size ≤ 140737488351232 ∧ t.2.size ≤ 140737488351232 := by
  obtain ⟨A, c, rfl, hl, h⟩ := h
  refine ⟨_, rfl, ⟨A, c, rfl, fun h0 => ?_⟩, hl, fun t ht => ?_⟩
  · obtain ⟨r, o, rfl, hr, h⟩ := h h0
    refine ⟨r, o, rfl, hr, fun j hj => ?_⟩
    obtain ⟨cs', ⟨rfl, _⟩, _, hc⟩ := h j hj
    exact ⟨by simpa using hc 0 _ rfl, hc 1 _ rfl⟩
  · obtain ⟨j, hj, rfl⟩ := List.getElem_of_mem ht
    obtain ⟨r, o, rfl, hr, h⟩ := h (by omega)
    obtain ⟨cs', ⟨_, h2⟩, _, _⟩ := h j hj
    exact h2
theorem scoreds_of {l : List Sc} {cs : List Value} (h : SlAt w 2 ScAt l cs) : ∃ v, cs = [v] ∧ ScoredsAt w w.heap.size v l ∧ l.length ≤ 140737488351232 ∧ ∀ t ∈ l, t.1.size ≤ 140737488351232 ∧ t.2 < 18446744073709551616 := by
  obtain ⟨A, c, rfl, hl, h⟩ := h
  refine ⟨_, rfl, ⟨A, c, rfl, fun h0 => ?_⟩, hl, fun t ht => ?_⟩
  · obtain ⟨r, o, rfl, hr, h⟩ := h h0
    refine ⟨r, o, rfl, hr, fun j hj => ?_⟩
    obtain ⟨cs', ⟨rfl, _⟩, _, hc⟩ := h j hj
    exact ⟨by simpa using hc 0 _ rfl, hc 1 _ rfl⟩
  · obtain ⟨j, hj, rfl⟩ := List.getElem_of_mem ht
    obtain ⟨r, o, rfl, hr, h⟩ := h (by omega)
    obtain ⟨cs', ⟨_, h2⟩, _, _⟩ := h j hj
    exact h2
structure EnAt (w : World) (e : En) (cs : List Value) : Prop where
  ex : ∃ v, cs = [.int .u64 (e.ms : Int), .int .u64 (e.seq : Int), v] ∧ PairsAt w w.heap.size v e.pairs
  len : e.pairs.length ≤ 140737488351232
  pairs : ∀ t ∈ e.pairs, t.1.size ≤ 140737488351232 ∧ t.2.size ≤ 140737488351232
  ids : e.ms < 18446744073709551616 ∧ e.seq < 18446744073709551616
theorem take2_of {cs : List Value} {o : Nat} {u v : Value} (h : (cs.drop o).take 2 = [u, v]) : cs[o]? = some u ∧ cs[o + 1]? = some v := by
  have h0 : ((cs.drop o).take 2)[0]? = some u := by rw [h]; rfl
  have h1 : ((cs.drop o).take 2)[1]? = some v := by rw [h]; rfl
  rw [List.getElem?_take] at h0 h1
  exact ⟨by simpa using h0, by simpa using h1⟩
theorem rd_entry : Rd enc Tryz.prog w held 95 (EnAt w) := by
  intro fuel cs x h hz
  obtain ⟨hl, hf⟩ := struct_field (α := Nat × Nat) Tryz.underlying95 h hz
  obtain ⟨_, hf2⟩ := struct_field (α := List Pr) Tryz.underlying95 h hz
  obtain ⟨a, ha, ha2⟩ := hf 0 _ rfl 40 0 2 rfl rfl (by kernel_rfl) _ rd_id
  obtain ⟨b, hb⟩ := hf2 1 _ rfl 35 2 1 rfl rfl (by kernel_rfl) _ rd_pairs
  obtain ⟨v, hv, hP, hl', hs⟩ := pairs_of hb
  have hl2 : cs.length = 3 := hl.trans (by kernel_rfl)
  obtain ⟨h0, h1⟩ := take2_of ha
  have h2 := one_of hv
  refine ⟨⟨a.1, a.2, b⟩, ⟨v, of_ats hl2 fun i u hu => ?_, hP⟩, hl', hs, ha2⟩
  match i, hu with
  | 0, hu => obtain rfl : Value.int .u64 (a.1 : Int) = u := by simpa using hu
             exact h0
  | 1, hu => obtain rfl : Value.int .u64 (a.2 : Int) = u := by simpa using hu
             exact h1
  | 2, hu => obtain rfl : v = u := by simpa using hu
             exact h2
theorem rd_entries : Rd enc Tryz.prog w held 37 (SlAt w 3 (EnAt w)) := rd_slice Tryz.underlying37 (by kernel_rfl) (by decide) (b := 40) (by kernel_rfl) (by decide) rd_entry
theorem entries_of {l : List En} {cs : List Value} (h : SlAt w 3 (EnAt w) l cs) : ∃ v, cs = [v] ∧ EntriesAt w w.heap.size v l ∧ l.length ≤ 140737488351232 ∧ ∀ e ∈ l, e.pairs.length ≤ 140737488351232 ∧ (∀ t ∈ e.pairs, t.1.size ≤ 140737488351232 ∧ t.2.size ≤ 140737488351232) ∧ e.ms < 18446744073709551616 ∧ e.seq < 18446744073709551616 := by
  obtain ⟨A, c, rfl, hl, h⟩ := h
  refine ⟨_, rfl, ⟨A, c, rfl, fun h0 => ?_⟩, hl, fun t ht => ?_⟩
  · obtain ⟨r, o, rfl, hr, h⟩ := h h0
    refine ⟨r, o, rfl, hr, fun j hj => ?_⟩
    obtain ⟨cs', ⟨⟨v, rfl, hP⟩, _, _, _⟩, _, hc⟩ := h j hj
    exact ⟨by simpa using hc 0 _ rfl, hc 1 _ rfl, v, hc 2 _ rfl, hP⟩
  · obtain ⟨j, hj, rfl⟩ := List.getElem_of_mem ht
    obtain ⟨r, o, rfl, hr, h⟩ := h (by omega)
    obtain ⟨cs', ⟨_, h2, h3, h4⟩, _, _⟩ := h j hj
    exact ⟨h2, h3, h4⟩
/-- an item, as it is read -/
structure ItAt (w : World) (it : It) (cs : List Value) : Prop where
  ex : ∃ c, cs = icells it c ∧ ValAt w w.heap.size c it.val
  vab : VaB it.val
  itt : ItT it
  ids : ∀ e ∈ it.val.stream, e.ms < 18446744073709551616 ∧ e.seq < 18446744073709551616
  db : -9223372036854775808 ≤ it.db ∧ it.db ≤ 9223372036854775807
  dead : -9223372036854775808 ≤ it.dead ∧ it.dead ≤ 9223372036854775807
structure VaAt (w : World) (v : Va) (cs : List Value) : Prop where
  ex : ∃ c, cs = vcells v c ∧ ValAt w w.heap.size c v
  vab : VaB v
  vat : VaT v
  ids : ∀ e ∈ v.stream, e.ms < 18446744073709551616 ∧ e.seq < 18446744073709551616
set_option maxRecDepth 100000 in
theorem rd_value : Rd enc Tryz.prog w held 42 (VaAt w) := by
  intro fuel cs x h hz
  obtain ⟨hl, f0⟩ := struct_field (α := Nat) Tryz.underlying42 h hz
  obtain ⟨_, f1⟩ := struct_field (α := ByteArray) Tryz.underlying42 h hz
  obtain ⟨_, f2⟩ := struct_field (α := List ByteArray) Tryz.underlying42 h hz
  obtain ⟨_, f3⟩ := struct_field (α := List Pr) Tryz.underlying42 h hz
  obtain ⟨_, f5⟩ := struct_field (α := List Sc) Tryz.underlying42 h hz
  obtain ⟨_, f6⟩ := struct_field (α := List En) Tryz.underlying42 h hz
  obtain ⟨_, f7⟩ := struct_field (α := Nat × Nat) Tryz.underlying42 h hz
  obtain ⟨k, k1, k2⟩ := f0 0 _ rfl 33 0 1 rfl rfl (by kernel_rfl) (NatAt .u8 256) (rd_nat Tryz.underlying33 rfl rfl)
  obtain ⟨s, s1, s2⟩ := f1 1 _ rfl 9 1 1 rfl rfl (by kernel_rfl) _ rd_text
  obtain ⟨li, li1⟩ := f2 2 _ rfl 34 2 1 rfl rfl (by kernel_rfl) _ rd_texts
  obtain ⟨ha, ha1⟩ := f3 3 _ rfl 35 3 1 rfl rfl (by kernel_rfl) _ rd_pairs
  obtain ⟨se, se1⟩ := f2 4 _ rfl 34 4 1 rfl rfl (by kernel_rfl) _ rd_texts
  obtain ⟨zs, zs1⟩ := f5 5 _ rfl 36 5 1 rfl rfl (by kernel_rfl) _ rd_scoreds
  obtain ⟨st, st1⟩ := f6 6 _ rfl 37 6 1 rfl rfl (by kernel_rfl) _ rd_entries
  obtain ⟨id, id1, id2⟩ := f7 7 _ rfl 40 7 2 rfl rfl (by kernel_rfl) _ rd_id
  obtain ⟨lv, e2, L1, L2, L3⟩ := texts_of li1
  obtain ⟨hv, e3, H1, H2, H3⟩ := pairs_of ha1
  obtain ⟨sv, e4, S1, S2, S3⟩ := texts_of se1
  obtain ⟨zv, e5, Z1, Z2, Z3⟩ := scoreds_of zs1
  obtain ⟨ev, e6, E1, E2, E3⟩ := entries_of st1
  have c0 := one_of k1
  have c1 := one_of s1
  have c2 := one_of e2
  have c3 := one_of e3
  have c4 := one_of e4
  have c5 := one_of e5
  have c6 := one_of e6
  obtain ⟨c7, c8⟩ := take2_of id1
  have hl2 : cs.length = 9 := hl.trans (by kernel_rfl)
  refine ⟨⟨k, s, li, ha, se, zs, st, id.1, id.2⟩, ⟨⟨lv, hv, sv, zv, ev⟩, of_ats hl2 fun i u hu => ?_, ⟨L1, H1, S1, Z1, E1⟩⟩, ⟨k2, s2, L2, H2, S2, Z2, E2, fun e he => (E3 e he).1, fun z hz => (Z3 z hz).2, id2⟩, ⟨s2, L3, H3, S3, fun z hz => (Z3 z hz).1, fun e he => (E3 e he).2.1⟩, fun e he => (E3 e he).2.2⟩
  match i, hu with
  | 0, hu => obtain rfl := Option.some.inj hu; exact c0
  | 1, hu => obtain rfl := Option.some.inj hu; exact c1
  | 2, hu => obtain rfl := Option.some.inj hu; exact c2
  | 3, hu => obtain rfl := Option.some.inj hu; exact c3
  | 4, hu => obtain rfl := Option.some.inj hu; exact c4
  | 5, hu => obtain rfl := Option.some.inj hu; exact c5
  | 6, hu => obtain rfl := Option.some.inj hu; exact c6
  | 7, hu => obtain rfl := Option.some.inj hu; exact c7
  | 8, hu => obtain rfl := Option.some.inj hu; exact c8
set_option maxRecDepth 100000 in
theorem rd_item : Rd enc Tryz.prog w held 44 (ItAt w) := by
  intro fuel cs x h hz
  obtain ⟨hl, f0⟩ := struct_field (α := Int) Tryz.underlying44 h hz
  obtain ⟨_, f1⟩ := struct_field (α := ByteArray) Tryz.underlying44 h hz
  obtain ⟨_, f2⟩ := struct_field (α := Va) Tryz.underlying44 h hz
  obtain ⟨d, d1, d2⟩ := f0 0 _ rfl 3 0 1 rfl rfl (by kernel_rfl) _ (rd_int Tryz.underlying3)
  obtain ⟨s, s1, s2⟩ := f1 1 _ rfl 9 1 1 rfl rfl (by kernel_rfl) _ rd_text
  obtain ⟨v, ⟨c, v1, v2⟩, v3, v4, v5⟩ := f2 2 _ rfl 42 2 9 rfl rfl (by kernel_rfl) _ rd_value
  obtain ⟨t, t1, t2⟩ := f0 3 _ rfl 2 11 1 rfl rfl (by kernel_rfl) _ (rd_int Tryz.underlying2)
  have c0 := one_of d1
  have c1 := one_of s1
  have c3 := one_of t1
  have hl2 : cs.length = 12 := hl.trans (by kernel_rfl)
  refine ⟨⟨d, s, v, t⟩, ⟨c, of_ats hl2 fun i u hu => ?_, v2⟩, v3, ⟨s2, v4⟩, v5, d2, t2⟩
  have hv : ∀ i u, (vcells v c)[i]? = some u → cs[2 + i]? = some u := by
    intro i u hu
    rw [← v1, List.getElem?_take] at hu
    split at hu
    · rw [List.getElem?_drop] at hu
      exact hu
    · cases hu
  match i, hu with
  | 0, hu => obtain rfl := Option.some.inj hu; exact c0
  | 1, hu => obtain rfl := Option.some.inj hu; exact c1
  | 2, hu => exact hv 0 _ hu
  | 3, hu => exact hv 1 _ hu
  | 4, hu => exact hv 2 _ hu
  | 5, hu => exact hv 3 _ hu
  | 6, hu => exact hv 4 _ hu
  | 7, hu => exact hv 5 _ hu
  | 8, hu => exact hv 6 _ hu
  | 9, hu => exact hv 7 _ hu
  | 10, hu => exact hv 8 _ hu
  | 11, hu => obtain rfl := Option.some.inj hu; exact c3
theorem rd_items : Rd enc Tryz.prog w held 22 (SlAt w 12 (ItAt w)) := rd_slice Tryz.underlying22 (by kernel_rfl) (by decide) (b := 192) (by kernel_rfl) (by decide) rd_item
/-- what is known of items that were read -/
structure ItB (it : It) : Prop where
  vab : VaB it.val
  itt : ItT it
  ids : ∀ e ∈ it.val.stream, e.ms < 18446744073709551616 ∧ e.seq < 18446744073709551616
  db : -9223372036854775808 ≤ it.db ∧ it.db ≤ 9223372036854775807
  dead : -9223372036854775808 ≤ it.dead ∧ it.dead ≤ 9223372036854775807
theorem items_of {l : List It} {cs : List Value} (h : SlAt w 12 (ItAt w) l cs) : ∃ v, cs = [v] ∧ ItemsAt w w.heap.size v l ∧ l.length ≤ 140737488351232 ∧ ∀ e ∈ l, ItB e := by
  obtain ⟨A, c, rfl, hl, h⟩ := h
  refine ⟨_, rfl, ⟨A, c, rfl, fun h0 => ?_⟩, hl, fun t ht => ?_⟩
  · obtain ⟨r, o, rfl, hr, h⟩ := h h0
    refine ⟨r, o, rfl, hr, fun j hj => ?_⟩
    obtain ⟨cs', ⟨⟨cl, rfl, hP⟩, _, _, _, _, _⟩, _, hc⟩ := h j hj
    exact ⟨cl, fun i u hu => hc i u hu, hP⟩
  · obtain ⟨j, hj, rfl⟩ := List.getElem_of_mem ht
    obtain ⟨r, o, rfl, hr, h⟩ := h (by omega)
    obtain ⟨cs', ⟨_, h2, h3, h4, h5, h6⟩, _, _⟩ := h j hj
    exact ⟨h2, h3, h4, h5, h6⟩
end
end Go.Proofs.YtpnmhldaaaemeaaGreat.Snp
/- The last step of a row where the call may have made memory and marks of its own: of what was there when it began, nothing has turned ('Below'). Turned from the kit's block of the same name. -/
namespace Go.Proofs.YtpnmhldaaaemeaaGreat.Post
open Go.RowKit Go.WideShapes Go.ChangeShapes
variable {H : Type} {enc : TypeId × Value → H} {P : Program}
theorem post_of_below {f : Func} {s : ChangeSpec} {apart fresh handsOn again : Bool} {W W' : World} {args : Array Value} {v : Value} {ds gs : List (DataW H)} {before pa pv : List MemPlace}
    (hW : DataW.Whole enc P f.params.toList s.vars apart W args.toList ds gs before)
    (hres : ∀ (b : Nat) (sp : Nat → Bool) (hd : Bool), DataW.TrodAll enc P W' b sp hd f.resultTypes.toList (v.resultList f.resultTypes.size) (s.fn H (ds ++ gs)).results [])
    (hargs : ∀ sp : Nat → Bool, (∀ p ∈ before, sp p.block = true) → DataW.TrodAll enc P W' 0 sp true f.params.toList args.toList (s.fn H (ds ++ gs)).args pa)
    (hvars : ∀ sp : Nat → Bool, (∀ p ∈ before, sp p.block = true) → DataW.TrodVars enc P W' sp s.vars (s.fn H (ds ++ gs)).vars pv)
    (hps : before = pa ++ pv) (hb : Below W.heap.size W W')
    (hok : ∀ (j : Nat) (t : TypeId) (r : Value), f.resultTypes[j]? = some t → (v.resultList f.resultTypes.size)[j]? = some r → Value.okWide P W' .any 0 t r) :
    s.post enc P f apart fresh handsOn again W args v W' := by
  have hlt : ∀ p ∈ before, p.block < W.heap.size := fun p hp => hW.lt p hp
  have hold : ∀ p ∈ before, (fun b => decide (b < W.heap.size)) p.block = true := fun p hp => by simpa using hlt p hp
  refine ⟨ds, gs, before, [], pa, pv, hW, hres _ _ _, hargs _ hold, hvars _ hold, World.keptBut_mono (fun p hp => ⟨hp, ?_⟩) (hb.frame (· ∈ before)), fun _ => ?_⟩
  · rw [hps, List.mem_append] at hp
    exact Or.inr hp
  · obtain ⟨_, _, _, _, _, hz, hn⟩ := hW
    refine ⟨hok, _, _, ([] ++ pa) ++ pv, ⟨[] ++ pa, pv, trodAll_append (hargs _ (fun _ _ => rfl)) (hres _ _ _), hvars _ (fun _ _ => rfl), rfl, ?_, ?_⟩, ?_⟩
    · intro b off hp
      have hin : MemPlace.cell b off ∈ before := by rw [hps]; simpa using hp
      rw [hb.frozen (hlt _ hin)]
      exact hz b off hin
    · intro ha
      have := hn ha
      rw [hps] at this
      simpa using this
    · intro p hp _
      rw [hps]
      simpa using hp
end Go.Proofs.YtpnmhldaaaemeaaGreat.Post
/- The last step of a law's row, whatever its arguments are: it returned true, and of what was there nothing has turned, so its arguments read as they did. -/
namespace Go.Proofs.YtpnmhldaaaemeaaGreat.Law
open Go.RowKit Go.WideShapes Go.ChangeShapes
variable {H : Type} {enc : TypeId × Value → H} {P : Program}
theorem trodAll_stays (hl : laidOutB P = true) {W W' : World} (hb : Below W.heap.size W W') {sp : Nat → Bool} :
    ∀ {ts : List TypeId} {vs : List Value} {ds : List (DataW H)} {ps : List MemPlace}, ts.all (fun t => P.readableRec t && decide (t < P.types.size)) = true →
      DataW.TrodAll enc P W 0 (fun _ => true) true ts vs ds ps → (∀ p ∈ ps, p.block < W.heap.size) → (∀ p ∈ ps, sp p.block = true) → DataW.TrodAll enc P W' 0 sp true ts vs ds ps
  | [], vs, ds, ps, _, h, _, _ => by
    obtain ⟨rfl, rfl, rfl⟩ := trodAll_nil h
    exact trodAll_mk0
  | t :: ts, vs, ds, ps, hr, h, hlt, hsp => by
    obtain ⟨v, vs', d, ds', p, q, rfl, rfl, rfl, h0, h1⟩ := trodAll_cons h
    simp only [List.all_cons, Bool.and_eq_true, decide_eq_true_eq] at hr
    refine trodAll_cons_mk ?_ (trodAll_stays hl hb (by simpa using hr.2) h1 (fun p hp => hlt p (by simp [hp])) (fun p hp => hsp p (by simp [hp])))
    exact WideElems.Trod_stays hl hr.1.1 hr.1.2 h0 (fun x hx => hb.same (hlt x (by simp [hx]))) (fun x hx => hsp x (by simp [hx]))
/-- the row's post, out of 'it returned true' and 'Below' -/
theorem law_post {f : Func} {s : ChangeSpec} {bt : TypeId} {apart fresh handsOn again : Bool} {W W' : World} {args : Array Value} {ds gs : List (DataW H)} {before : List MemPlace}
    (hl : laidOutB P = true) (hr : f.params.toList.all (fun t => P.readableRec t && decide (t < P.types.size)) = true) (hbt : P.underlying bt = some .bool) (hrt : f.resultTypes = #[bt]) (hvars : s.vars = [])
    (hW : DataW.Whole enc P f.params.toList s.vars apart W args.toList ds gs before) (hspec : s.fn H (ds ++ gs) = { results := [.lit (.bool true)], args := ds }) (hb : Below W.heap.size W W') :
    s.post enc P f apart fresh handsOn again W args (.bool true) W' := by
  have hlt : ∀ p ∈ before, p.block < W.heap.size := fun p hp => hW.lt p hp
  have hW' := hW
  obtain ⟨p, q, hA, hV, hpq, hz, hn⟩ := hW'
  rw [hvars] at hV
  obtain ⟨rfl, rfl⟩ := trodVars_none hV
  rw [List.append_nil] at hpq
  subst hpq
  refine Post.post_of_below (pa := before) (pv := []) hW ?_ ?_ ?_ (by simp) hb ?_
  · intro b sp hd
    rw [hspec, hrt]
    exact trodAll_cons_mk (shut_bool hbt _) trodAll_mk0
  · intro sp hsp
    rw [hspec]
    exact trodAll_stays hl hb hr hA hlt hsp
  · intro sp _
    rw [hspec, hvars]
    rfl
  · exact ok_one hrt rfl (okWide_bool_mk hbt _)
end Go.Proofs.YtpnmhldaaaemeaaGreat.Law
