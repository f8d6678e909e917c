/- Chapter 07: holder walked. -/
import Derived.Test.YtnoalklbgncajaaDoorDpw07
namespace Go.Proofs.YtnoalklbgncajaaDoor.Dct
open Go Go.RowKit Go.Proofs.YtnoalklbgncajaaDoor.Pin Go.Proofs.YtnoalklbgncajaaDoor.Mps Go.Proofs.YtnoalklbgncajaaDoor.Bok Go.Proofs.YtnoalklbgncajaaDoor.Uw Go.Proofs.YtnoalklbgncajaaDoor.Sip
attribute [local go_sem high] eql_tab
attribute [local go_sem high] run_store_U cells_U eqGuard_U asIntOf_U
attribute [local go_sem high] eql_map neq_map
theorem seek_cases (k : ByteArray) : ∀ (l : Ents) (i : Nat), (seek k (mapE l) i = none ∧ ∀ x ∈ l, x.1 ≠ k) ∨ ∃ j v, seek k (mapE l) i = some (j, .int .i64 v) ∧ (k, v) ∈ l
  | [], _ => .inl ⟨rfl, fun x hx => by cases hx⟩
  | x :: l, i => by
    cases e : (k == x.1) with
    | true =>
      refine .inr ⟨i, x.2, ?_, ?_⟩
      · show (if (k == x.1) = true then _ else seek k (mapE l) (i + 1)) = _
        rw [if_pos e]
      · have := (MapKept.bytes_beq _ _).1 e
        rw [this]
        exact List.mem_cons_self
    | false =>
      have h1 : seek k (mapE (x :: l)) i = seek k (mapE l) (i + 1) := by
        show (if (k == x.1) = true then _ else seek k (mapE l) (i + 1)) = _
        rw [e]
        rfl
      rw [h1]
      rcases seek_cases k l (i + 1) with ⟨h2, h3⟩ | ⟨j, v, h2, h3⟩
      · refine .inl ⟨h2, fun y hy => ?_⟩
        rcases List.mem_cons.1 hy with rfl | hy
        · intro e2
          rw [← e2, (MapKept.bytes_beq _ _).2 rfl] at e
          cases e
        · exact h3 y hy
      · exact .inr ⟨j, v, h2, List.mem_cons_of_mem _ h3⟩
/-- no entry of this key in a place -/
def NotIn (z : Pl) (k : ByteArray) : Prop := ∀ b l, z = some (b, l) → ∀ x ∈ l, x.1 ≠ k
theorem run_zeroInt (w : World) : (zeroValue 3).run Tryd.prog w = .ok (.int .i64 0) w := by simp
theorem look_pl {w : World} {z : Pl} (hz : ∀ b l, z = some (b, l) → MapAt w b (mapE l)) (k : ByteArray) :
    (∃ b l v, z = some (b, l) ∧ (k, v) ∈ l ∧ (Instr.lookup 52 (plV z) (.string k) true).run Tryd.prog w = .ok (.tuple #[.int .i64 v, .bool true]) w) ∨
    (NotIn z k ∧ (Instr.lookup 52 (plV z) (.string k) true).run Tryd.prog w = .ok (.tuple #[.int .i64 0, .bool false]) w) := by
  cases z with
  | none =>
    refine .inr ⟨fun b l e => (by cases e), ?_⟩
    have hs := run_seek (P := Tryd.prog) (w := w) (k := 9) (ps := []) Tryd.underlying9 (es := #[]) rfl k
    have hs2 : (Instr.findKey 9 (.string k) []).run Tryd.prog w = .ok none w := hs
    simp [plV, Instr.lookup, run_underlying Tryd.underlying52, run_chk (P := Tryd.prog) Tryd.underlying9, hs2, Result.andThen]
  | some y =>
    obtain ⟨b, l⟩ := y
    have hl := look_ok (P := Tryd.prog) Tryd.underlying52 Tryd.underlying9 (run_zeroInt w) (hz b l rfl) k
    rcases seek_cases k l 0 with ⟨h1, h2⟩ | ⟨j, v, h1, h2⟩
    · rw [h1] at hl
      exact .inr ⟨fun b' l' e => by cases e; exact h2, hl⟩
    · rw [h1] at hl
      exact .inl ⟨b, l, v, rfl, h2, hl⟩
theorem idx0 (w : World) (a b : Value) : (Instr.index 49 (.agg #[a, b]) (.int .i64 0)).run Tryd.prog w = .ok a w := by
  simp [Instr.index, run_underlying Tryd.underlying49, asIntOf, part, Result.andThen]
theorem idx1 (w : World) (a b : Value) : (Instr.index 49 (.agg #[a, b]) (.int .i64 1)).run Tryd.prog w = .ok b w := by
  simp [Instr.index, run_underlying Tryd.underlying49, asIntOf, part, Result.andThen]
/-- what holder answers -/
def Held (s : St) (k : ByteArray) (e : Ending) : Prop :=
  (∃ b l v, s.p0[plc s.sd k s.p0.length]? = some (some (b, l)) ∧ (k, v) ∈ l ∧ e = .returned (.map (some b))) ∨
  (∃ x b l v, s.t1 = some x ∧ x.2[plc s.sd k x.2.length]? = some (some (b, l)) ∧ (k, v) ∈ l ∧ e = .returned (.map (some b))) ∨
  ((∀ z, s.p0[plc s.sd k s.p0.length]? = some z → NotIn z k) ∧ (∀ x, s.t1 = some x → ∀ z, x.2[plc s.sd k x.2.length]? = some z → NotIn z k) ∧ e = .returned (.map none))
set_option maxHeartbeats 2000000 in
set_option maxRecDepth 100000 in
theorem holder_any {w : World} {d : Nat} {s : St} (h : DAt w d s) (k : ByteArray) (hk : k.size ≤ 140737488351232) :
    Calls Tryd.prog 18 #[.pointer (some ⟨d, 0, none⟩), .string k] w fun e w' => Held s k e ∧ Below w.heap.size w w' := by
  have HD := Lib.hid h
  have c1 : w.cell? ⟨d, 1, none⟩ = some (.slice (some ⟨s.a0, 0, none⟩) s.p0.length s.p0.length) := by rw [Lib.cell_of_heap h.top]; rfl
  have c2 : w.cell? ⟨d, 2, none⟩ = some (t1V s.t1) := by rw [Lib.cell_of_heap h.top]; rfl
  have HB0 := Lib.hid (Below.refl w.heap.size w)
  clear h
  go_enter Tryd.func18, Tryd.ntmps18
  go_wp2_with fail
  go_loopw [14] (fun i wr => ∃ j : Nat, j ≤ 2 ∧ i = .int .i64 (j : Int) ∧ Hid (0 < j → ∀ z, s.p0[plc s.sd k s.p0.length]? = some z → NotIn z k) ∧ Hid (1 < j → ∀ x, s.t1 = some x → ∀ z, x.2[plc s.sd k x.2.length]? = some z → NotIn z k) ∧ Hid (Below w.heap.size w wr)) (fun i _ => 2 - (intOf i).toNat)
  case atStart => exact ⟨0, by omega, rfl, Lib.hid fun h => absurd h (by omega), Lib.hid fun h => absurd h (by omega), HB0⟩
  case round =>
    obtain ⟨j, hj, rfl, H0, H1, HB⟩ := hrel
    have HD1 := Lib.hid (HD.out.below HB.out)
    obtain rfl | rfl | rfl : j = 0 ∨ j = 1 ∨ j = 2 := by omega
    -- @ROUNDS
    · have HF := Lib.hid (find_any HD1.out (some ⟨s.a0, 0, none⟩) (s.p0).length (s.p0).length k HD1.out.len0.1 HD1.out.len0.2 hk)
      have hix := @idx0
      have hz0 : (0 : Int) < 2 := by omega
      go_wp2_with fail
      refine HF.out.mono ?_
      rintro e w1 ⟨rfl, hb1⟩
      have HT1 : Hid (TabAt w1 s.a0 s.p0) := Lib.hid (HD1.out.below hb1).tab0
      obtain ⟨i, hi⟩ : ∃ i, i = plc s.sd k (s.p0).length := ⟨_, rfl⟩
      have hil : i < (s.p0).length := by rw [hi]; exact plc_lt _ _ HD1.out.len0.1 HD1.out.len0.2
      obtain ⟨z, hz⟩ : ∃ z, (s.p0)[i]? = some z := ⟨_, List.getElem?_eq_getElem hil⟩
      have hcell : w1.cell? ⟨s.a0, i, none⟩ = some (plV z) := by
        rw [Lib.cell_of_heap HT1.out.row]
        simp [hz]
      have HX : Hid ((s.p0)[plc s.sd k (s.p0).length]? = some z) := Lib.hid (by rw [← hi]; exact hz)
      have hlk := look_pl (w := w1) (z := z) (fun b l e => HT1.out.map z (List.mem_of_getElem? hz) b l e) k
      have HBW : Hid (Below w.heap.size w w1) := Lib.hid (HB.out.trans (hb1.mono HB.out.size))
      rw [← hi]
      clear hb1 HF hz hi
      rcases hlk with ⟨b, l, v, rfl, hmem, hrun⟩ | ⟨hnot, hrun⟩
      · have HM := Lib.hid hmem
        clear hmem
        go_wp2_with fail
        go_ret
        exact ⟨.inl ⟨b, l, v, HX.out, HM.out, rfl⟩, HBW.out⟩
      · have HN := Lib.hid hnot
        clear hnot
        go_wp2_with fail
        exact ⟨⟨1, by omega, by go_num, Lib.hid fun _ z2 hz2 => (by rw [HX.out] at hz2; cases hz2; exact HN.out), Lib.hid fun h => absurd h (by omega), HBW⟩, by simp [intOf]⟩
    · rcases s.t1_cases with ht | ⟨x, ht⟩
      · have e1 : t1V s.t1 = .slice none 0 0 := by rw [ht]; rfl
        have hix := @idx1
        have HT := Lib.hid ht
        rw [e1]
        clear ht e1 c2
        go_wp2_with fail
        exact ⟨⟨2, by omega, by go_num, Lib.hid fun _ => H0.out (by omega), Lib.hid fun _ y hy => (by rw [HT.out] at hy; cases hy), HB⟩, by simp [intOf]⟩
      · have e1 : t1V s.t1 = .slice (some ⟨x.1, 0, none⟩) x.2.length x.2.length := by rw [ht]; rfl
        have HT := Lib.hid ht
        rw [e1]
        clear ht e1 c2
        have HF := Lib.hid (find_any HD1.out (some ⟨x.1, 0, none⟩) (x.2).length (x.2).length k (HD1.out.len1 x HT.out).1 (HD1.out.len1 x HT.out).2 hk)
        have hix := @idx1
        have hz0 : (0 : Int) < 2 := by omega
        go_wp2_with fail
        refine HF.out.mono ?_
        rintro e w1 ⟨rfl, hb1⟩
        have HT1 : Hid (TabAt w1 x.1 x.2) := Lib.hid ((HD1.out.below hb1).tab1 x HT.out)
        obtain ⟨i, hi⟩ : ∃ i, i = plc s.sd k (x.2).length := ⟨_, rfl⟩
        have hil : i < (x.2).length := by rw [hi]; exact plc_lt _ _ (HD1.out.len1 x HT.out).1 (HD1.out.len1 x HT.out).2
        obtain ⟨z, hz⟩ : ∃ z, (x.2)[i]? = some z := ⟨_, List.getElem?_eq_getElem hil⟩
        have hcell : w1.cell? ⟨x.1, i, none⟩ = some (plV z) := by
          rw [Lib.cell_of_heap HT1.out.row]
          simp [hz]
        have HX : Hid ((x.2)[plc s.sd k (x.2).length]? = some z) := Lib.hid (by rw [← hi]; exact hz)
        have hlk := look_pl (w := w1) (z := z) (fun b l e => HT1.out.map z (List.mem_of_getElem? hz) b l e) k
        have HBW : Hid (Below w.heap.size w w1) := Lib.hid (HB.out.trans (hb1.mono HB.out.size))
        rw [← hi]
        clear hb1 HF hz hi
        rcases hlk with ⟨b, l, v, rfl, hmem, hrun⟩ | ⟨hnot, hrun⟩
        · have HM := Lib.hid hmem
          clear hmem
          go_wp2_with fail
          go_ret
          exact ⟨.inr (.inl ⟨x, b, l, v, HT.out, HX.out, HM.out, rfl⟩), HBW.out⟩
        · have HN := Lib.hid hnot
          clear hnot
          go_wp2_with fail
          exact ⟨⟨2, by omega, by go_num, Lib.hid fun _ => H0.out (by omega), Lib.hid fun _ y hy z2 hz2 => (by rw [HT.out] at hy; cases hy; rw [HX.out] at hz2; cases hz2; exact HN.out), HBW⟩, by simp [intOf]⟩
    · go_wp2_with fail
      go_ret
      exact ⟨.inr (.inr ⟨H0.out (by omega), H1.out (by omega), rfl⟩), HB.out⟩
end Go.Proofs.YtnoalklbgncajaaDoor.Dct
