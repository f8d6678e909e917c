/- Chapter 18: the document's Keys. -/
import Derived.Test.YtpanbijlfijgfaaDoorKeys18
import Derived.Test.YtpanbijlfijgfaaDoorRchk18
namespace Go.Proofs.YtpanbijlfijgfaaDoor.Fnd
open Go Go.RowKit Go.Proofs.YtpanbijlfijgfaaDoor.Rws Go.Proofs.YtpanbijlfijgfaaDoor.Low18 Go.Proofs.YtpanbijlfijgfaaDoor.Bok
set_option maxHeartbeats 4000000 in
set_option maxRecDepth 100000 in
theorem rkeys_any (p : Option Addr) (cap : Nat) (ss : List ByteArray) (w : World) (hne : 0 < ss.length) (hl : ss.length ≤ 1048576) (hb : ∀ s ∈ ss, s.size ≤ 140737488351232) (hS : Strs w p ss) :
    Calls Tryd.prog 10 #[.slice p ss.length cap] w fun e w' => ∃ o, Hit ⟨(lowL ss[0].data.toList).toArray⟩ o ∧ (∃ v, e = .returned v ∧ w'.ownsRow w.heap.size 9 1 v (keysL o ss).length ((keysL o ss).map Value.string)) ∧ Below w.heap.size w w' := by
  have HS := Lib.hid hS
  have hs0 : ss[0].size ≤ 140737488351232 := hb _ (List.getElem_mem _)
  have HC := Lib.hid (rcheck_any p ss cap w hne (by omega) hs0 hb hS)
  obtain ⟨g, o0, rfl, hg, hc0⟩ := hS 0 hne
  rw [Nat.add_zero] at hc0
  obtain ⟨s0, h0⟩ : ∃ s, s = ss[0] := ⟨_, rfl⟩
  rw [← h0] at hs0 hc0 HC ⊢
  have HF := Lib.hid (fun w => ref_find s0 w hs0)
  obtain ⟨i0, hi, hz0, hz1, hz2⟩ := info_parts kinfo_text
  have HI := Lib.hid hi
  have HZ0 := Lib.hid hz0
  have HZ1 := Lib.hid hz1
  have HZ2 := Lib.hid hz2
  obtain ⟨L, hL⟩ : ∃ L, L = ss.length := ⟨_, rfl⟩
  rw [← hL] at hl hne HC ⊢
  have HL := Lib.hid hL
  have HC0 := Lib.hid hc0
  have HGL := Lib.hid hg
  clear hS h0 hL hi hz0 hz1 hz2 hc0 hb hg
  have hpos : (0 : Int) < (L : Int) := by omega
  go_enter Tryd.func10, Tryd.ntmps10
  go_wp2_with fail
  refine HC.out.mono ?_
  rintro e w1 ⟨o, hh, rfl, b1⟩
  have HH := Lib.hid hh
  have B1 := Lib.hid b1
  clear b1 hh HC
  cases hck : chk o ss with
  | some t =>
    have HK : Hid (keysL o ss = []) := Lib.hid (by
      cases o with
      | none => rfl
      | some k => rw [keys_some, if_pos (by rw [hck]; rfl)])
    have HCK := Lib.hid hck
    clear hck
    unfold chkV repV
    simp only [Option.isSome_some]
    go_wp2_with fail
    go_ret
    refine ⟨o, HH.out, ⟨_, rfl, by rw [HK.out]; exact World.ownsRow_nil _ _ _ _⟩, ?_⟩
    exact B1.out.alloc B1.out.size _
  | none =>
    have HCK := Lib.hid hck
    cases o with
    | none => cases hck
    | some k =>
      clear hck
      unfold chkV repV
      simp only [Option.isSome_none]
      have hg1 : g < w1.heap.size := Nat.lt_of_lt_of_le HGL.out B1.out.size
      have g0 : (w1.alloc (.cells rep0 28)).cell? ⟨g, o0, none⟩ = some (.string s0) := by
        rw [World.cell?_alloc_past (.cells rep0 28) g o0 hg1]
        exact (B1.out.cell (p := ⟨g, o0, none⟩) HGL.out).trans HC0.out
      have B2 := Lib.hid (B1.out.alloc B1.out.size (.cells rep0 28))
      clear hg1
      go_wp2_with fail
      refine (HF.out _).mono ?_
      rintro e w2 ⟨o2, hh2, rfl, b2⟩
      obtain rfl : o2 = some k := hit_one hh2 HH.out
      have B3 := Lib.hid (B2.out.trans (b2.mono B2.out.size))
      clear b2 hh2 g0
      rw [show specO (some k) = specV k from rfl, show (some k).isSome = true from rfl]
      unfold specV
      by_cases h5 : iv k 5 = 0
      · have HK : Hid (keysL (some k) ss = []) := Lib.hid (by rw [keys_some, if_neg (by rw [HCK.out]; decide), if_pos h5])
        have B4 := Lib.hid (B3.out.alloc B3.out.size (.cells (rowA k) 58))
        unfold rowA at B4
        rw [h5] at B4 ⊢
        clear h5
        go_wp2_with fail
        go_ret
        exact ⟨some k, HH.out, ⟨_, rfl, by rw [HK.out]; exact World.ownsRow_nil _ _ _ _⟩, B4.out⟩
      · obtain ⟨a, e, e5, e6, h0a, hae, hel, h6⟩ := key_at HH.out.1 HCK.out h5 (by rw [← HL.out]; exact hne)
        have HK : Hid (keysL (some k) ss = (ss.drop a).take (e + 1 - a)) := Lib.hid (by rw [keys_some, if_neg (by rw [HCK.out]; decide), if_neg h5, e6, e5]; rfl)
        rw [← HL.out] at hel h6
        have hB4 := B3.out.alloc B3.out.size (.cells (rowA k) 58)
        have n5 : ¬ (a : Int) = 0 := by omega
        unfold rowA at hB4
        rw [e5] at hB4 ⊢
        have HB4 := Lib.hid hB4
        have HM : Hid (((ss.drop a).take (e + 1 - a)).length = e + 1 - a) := Lib.hid (by rw [List.length_take, List.length_drop]; have := HL.out; omega)
        clear hB4 h5 e5 e6
        rcases h6 with ⟨h6, hLe⟩ | h6
        · obtain ⟨f6, hf6⟩ : ∃ f6, f6 = iv k 6 := ⟨_, rfl⟩
          rw [← hf6] at h6 HB4 ⊢
          clear hf6
          go_wp2_with fail
          generalize hW4 : w2.alloc (.cells #[.string (nm k), .int .i64 (iv k 1), .int .i64 (iv k 2), .bool (bv k 3), .bool (bv k 4), .int .i64 (a : Int), .int .i64 f6, .bool (bv k 7), .int .i64 (iv k 8)] 58) = w4 at HB4 ⊢
          clear hW4
          clear B3 n5 h6 hLe h0a
          generalize ((a : Int) == 0) = q5
          go_loopw [8, 9] (fun out i wr => ∃ j : Nat, a ≤ j ∧ j ≤ e + 1 ∧ i = .int .i64 (j : Int) ∧ Hid (wr.ownsRow w.heap.size 9 1 out (j - a) (((ss.drop a).take (j - a)).map Value.string)) ∧ Hid (Below w.heap.size w wr)) (fun _ i _ => e + 1 - (intOf i).toNat)
          case atStart => exact ⟨a, Nat.le_refl _, by omega, rfl, Lib.hid (by rw [Nat.sub_self]; exact World.ownsRow_nil _ _ _ _), HB4⟩
          case round =>
            obtain ⟨j, haj, hje, rfl, HO, HW⟩ := hrel
            clear HB4
            by_cases hlt : j ≤ e
            · have hjl : j < ss.length := by have := HL.out; omega
              obtain ⟨g', o', he, hg', hcj⟩ := HS.out j hjl
              injection he with he
              injection he with he1 he2
              subst he1 he2
              obtain ⟨x, hx⟩ : ∃ x, x = ss[j] := ⟨_, rfl⟩
              have HX : Hid (((ss.drop a).take (j - a)).map Value.string ++ [.string x] = ((ss.drop a).take (j + 1 - a)).map Value.string) := Lib.hid (by
                have hd : j - a < (ss.drop a).length := by rw [List.length_drop]; omega
                rw [show j + 1 - a = j - a + 1 by omega, List.take_succ_eq_append_getElem hd, List.map_append, hx]
                congr 2
                rw [List.getElem_drop]
                congr 2
                omega)
              rw [← hx] at hcj
              have x1 : wr.cell? ⟨g, o0 + j, none⟩ = some (.string x) := (HW.out.cell (p := ⟨g, _, none⟩) HGL.out).trans hcj
              obtain ⟨A1, cc1, rfl, _⟩ := row_slice HO.out
              have HAL := Lib.hid (HO.out.alloc (.cells #[.string x] 9))
              have HOB := Lib.hid HO.out.lt
              have hli : (j : Int) ≤ (e : Int) := by omega
              clear hx hcj hg'
              go_wp2_with (at_builtin; refine wpList_append2 _ rfl _ _ 22 rfl w.heap.size 9 i0 (.string ⟨#[]⟩) 1 16 Tryd.underlying22 HI.out HZ0.out HZ1.out HZ2.out rfl (by decide) _ _ _ rfl HAL.out ⟨wr.heap.size, 0, none⟩ 1 1 [.string x] rfl rfl Nat.one_pos ?y1 ?y2 ?y3 ?y4 ?y5 ?_)
              case y2 => simp [Value.oneCell']
              case y3 => unfold maxLen; omega
              case y4 => omega
              case y5 => have := HW.out.size; simp; omega
              intro v5 w5 hown hgr
              have HO5 : Hid (w5.ownsRow w.heap.size 9 1 v5 (j + 1 - a) (((ss.drop a).take (j + 1 - a)).map Value.string)) := Lib.hid (by
                rw [← HX.out, show j + 1 - a = j - a + 1 by omega]
                simpa using hown)
              have HW5 : Hid (Below w.heap.size w w5) := Lib.hid (by
                have h0 := HW.out.alloc HW.out.size (.cells #[.string x] 9)
                rcases hgr with ⟨_, k⟩ | ⟨_, k⟩
                · exact h0.grown k (by have := HW.out.size; simp; omega) (fun b hb => (HOB.out b hb).1)
                · exact h0.grown k (by have := HW.out.size; simp; omega) (fun b hb => by cases hb))
              obtain ⟨A5, cc5, rfl, _⟩ := row_slice HO5.out
              clear hown hgr
              go_wp2_with fail
              exact ⟨⟨j + 1, by omega, by omega, by go_num, HO5, HW5⟩, by simp [intOf]; omega⟩
            · have hjn : j = e + 1 := by omega
              have hli : ¬ ((j : Int) ≤ (e : Int)) := by omega
              have HOe : Hid (wr.ownsRow w.heap.size 9 1 u8 (keysL (some k) ss).length ((keysL (some k) ss).map Value.string)) := Lib.hid (by
                rw [HK.out, HM.out, ← hjn]
                exact HO.out)
              go_wp2_with fail
              go_ret
              exact ⟨some k, HH.out, ⟨_, rfl, HOe.out⟩, HW.out⟩
        · rw [h6] at HB4 ⊢
          have h6n : ¬ ((e : Int) < 0) := by omega
          clear h6
          go_wp2_with fail
          generalize hW4 : w2.alloc (.cells #[.string (nm k), .int .i64 (iv k 1), .int .i64 (iv k 2), .bool (bv k 3), .bool (bv k 4), .int .i64 (a : Int), .int .i64 (e : Int), .bool (bv k 7), .int .i64 (iv k 8)] 58) = w4 at HB4 ⊢
          clear hW4
          clear B3 n5 h6n h0a
          generalize ((a : Int) == 0) = q5
          generalize decide ((e : Int) < 0) = q6
          go_loopw [8, 9] (fun out i wr => ∃ j : Nat, a ≤ j ∧ j ≤ e + 1 ∧ i = .int .i64 (j : Int) ∧ Hid (wr.ownsRow w.heap.size 9 1 out (j - a) (((ss.drop a).take (j - a)).map Value.string)) ∧ Hid (Below w.heap.size w wr)) (fun _ i _ => e + 1 - (intOf i).toNat)
          case atStart => exact ⟨a, Nat.le_refl _, by omega, rfl, Lib.hid (by rw [Nat.sub_self]; exact World.ownsRow_nil _ _ _ _), HB4⟩
          case round =>
            obtain ⟨j, haj, hje, rfl, HO, HW⟩ := hrel
            clear HB4
            by_cases hlt : j ≤ e
            · have hjl : j < ss.length := by have := HL.out; omega
              obtain ⟨g', o', he, hg', hcj⟩ := HS.out j hjl
              injection he with he
              injection he with he1 he2
              subst he1 he2
              obtain ⟨x, hx⟩ : ∃ x, x = ss[j] := ⟨_, rfl⟩
              have HX : Hid (((ss.drop a).take (j - a)).map Value.string ++ [.string x] = ((ss.drop a).take (j + 1 - a)).map Value.string) := Lib.hid (by
                have hd : j - a < (ss.drop a).length := by rw [List.length_drop]; omega
                rw [show j + 1 - a = j - a + 1 by omega, List.take_succ_eq_append_getElem hd, List.map_append, hx]
                congr 2
                rw [List.getElem_drop]
                congr 2
                omega)
              rw [← hx] at hcj
              have x1 : wr.cell? ⟨g, o0 + j, none⟩ = some (.string x) := (HW.out.cell (p := ⟨g, _, none⟩) HGL.out).trans hcj
              obtain ⟨A1, cc1, rfl, _⟩ := row_slice HO.out
              have HAL := Lib.hid (HO.out.alloc (.cells #[.string x] 9))
              have HOB := Lib.hid HO.out.lt
              have hli : (j : Int) ≤ (e : Int) := by omega
              clear hx hcj hg'
              go_wp2_with (at_builtin; refine wpList_append2 _ rfl _ _ 22 rfl w.heap.size 9 i0 (.string ⟨#[]⟩) 1 16 Tryd.underlying22 HI.out HZ0.out HZ1.out HZ2.out rfl (by decide) _ _ _ rfl HAL.out ⟨wr.heap.size, 0, none⟩ 1 1 [.string x] rfl rfl Nat.one_pos ?z1 ?z2 ?z3 ?z4 ?z5 ?_)
              case z2 => simp [Value.oneCell']
              case z3 => unfold maxLen; omega
              case z4 => omega
              case z5 => have := HW.out.size; simp; omega
              intro v5 w5 hown hgr
              have HO5 : Hid (w5.ownsRow w.heap.size 9 1 v5 (j + 1 - a) (((ss.drop a).take (j + 1 - a)).map Value.string)) := Lib.hid (by
                rw [← HX.out, show j + 1 - a = j - a + 1 by omega]
                simpa using hown)
              have HW5 : Hid (Below w.heap.size w w5) := Lib.hid (by
                have h0 := HW.out.alloc HW.out.size (.cells #[.string x] 9)
                rcases hgr with ⟨_, k⟩ | ⟨_, k⟩
                · exact h0.grown k (by have := HW.out.size; simp; omega) (fun b hb => (HOB.out b hb).1)
                · exact h0.grown k (by have := HW.out.size; simp; omega) (fun b hb => by cases hb))
              obtain ⟨A5, cc5, rfl, _⟩ := row_slice HO5.out
              clear hown hgr
              go_wp2_with fail
              exact ⟨⟨j + 1, by omega, by omega, by go_num, HO5, HW5⟩, by simp [intOf]; omega⟩
            · have hjn : j = e + 1 := by omega
              have hli : ¬ ((j : Int) ≤ (e : Int)) := by omega
              have HOe : Hid (wr.ownsRow w.heap.size 9 1 u8 (keysL (some k) ss).length ((keysL (some k) ss).map Value.string)) := Lib.hid (by
                rw [HK.out, HM.out, ← hjn]
                exact HO.out)
              go_wp2_with fail
              go_ret
              exact ⟨some k, HH.out, ⟨_, rfl, HOe.out⟩, HW.out⟩
end Go.Proofs.YtpanbijlfijgfaaDoor.Fnd
