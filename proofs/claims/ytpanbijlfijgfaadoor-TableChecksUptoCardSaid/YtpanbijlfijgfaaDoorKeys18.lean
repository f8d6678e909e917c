/- Chapter 18: table.Keys: which keys a command has. -/
import Derived.Test.YtpanbijlfijgfaaDoorLf18
namespace Go.Proofs.YtpanbijlfijgfaaDoor.Fnd
open Go Go.RowKit Go.Proofs.YtpanbijlfijgfaaDoor.Rws Go.Proofs.YtpanbijlfijgfaaDoor.Low18 Go.Proofs.YtpanbijlfijgfaaDoor.Bok
theorem rows_ok : (List.range 72).all (fun k => decide (iv k 5 = 0) || (decide (0 < iv k 5) && (if iv k 6 < 0 then decide (iv k 5 + 1 ≤ iv k 1) else decide (iv k 5 ≤ iv k 6) && decide (iv k 6 + 1 ≤ iv k 1)))) = true := by kernel_rfl
/-- where the last key stands -/
noncomputable def lastK (k len : Nat) : Nat := if iv k 6 < 0 then len - 1 else (iv k 6).toNat
noncomputable def keysL : Option Nat → List ByteArray → List ByteArray
  | none, _ => []
  | some k, ss => if (chk (some k) ss).isSome = true then [] else if iv k 5 = 0 then [] else (ss.drop (iv k 5).toNat).take (lastK k ss.length + 1 - (iv k 5).toNat)
theorem chk_some (k : Nat) (ss : List ByteArray) : chk (some k) ss = if badL k ss.length = true then some sWrong else if ss.any (fun s => decide (65536 < s.size)) = true then some sSize else none := rfl
theorem keys_some (k : Nat) (ss : List ByteArray) : keysL (some k) ss = if (chk (some k) ss).isSome = true then [] else if iv k 5 = 0 then [] else (ss.drop (iv k 5).toNat).take (lastK k ss.length + 1 - (iv k 5).toNat) := rfl
theorem key_at {k : Nat} {ss : List ByteArray} (hk : k < 72) (hc : chk (some k) ss = none) (h0 : ¬ iv k 5 = 0) (hl : 0 < ss.length) : ∃ a e : Nat, iv k 5 = (a : Int) ∧ lastK k ss.length = e ∧ 0 < a ∧ a ≤ e ∧ e + 1 ≤ ss.length ∧ ((iv k 6 < 0 ∧ (ss.length : Int) - 1 = (e : Int)) ∨ iv k 6 = (e : Int)) := by
  have h := List.all_eq_true.1 rows_ok k (List.mem_range.2 hk)
  have hb : ¬ (ss.length : Int) < iv k 1 := fun h => by
    rw [chk_some, if_pos (by simp [badL, h])] at hc
    cases hc
  unfold lastK
  simp only [Bool.or_eq_true, Bool.and_eq_true, decide_eq_true_eq, h0, false_or] at h
  by_cases h6 : iv k 6 < 0
  · rw [if_pos h6]
    simp only [h6, if_true, decide_eq_true_eq] at h
    exact ⟨(iv k 5).toNat, ss.length - 1, by omega, rfl, by omega, by omega, by omega, .inl ⟨h6, by omega⟩⟩
  · rw [if_neg h6]
    simp only [h6, if_false, Bool.and_eq_true, decide_eq_true_eq] at h
    exact ⟨(iv k 5).toNat, (iv k 6).toNat, by omega, rfl, by omega, by omega, by omega, .inr (by omega)⟩
/-- a command's texts, in a block of their own -/
def CmdAt (w : World) (g : Nat) (ss : List ByteArray) : Prop := g < w.heap.size ∧ ∀ i (h : i < ss.length), w.cell? ⟨g, i, none⟩ = some (.string ss[i])
theorem CmdAt.below {w w' : World} {g : Nat} {ss : List ByteArray} (h : CmdAt w g ss) (hb : Below w.heap.size w w') : CmdAt w' g ss := ⟨Nat.lt_of_lt_of_le h.1 hb.size, fun i hi => (hb.cell (p := ⟨g, _, none⟩) h.1).trans (h.2 i hi)⟩
theorem CmdAt.strs {w : World} {g : Nat} {ss : List ByteArray} (h : CmdAt w g ss) : Strs w (some ⟨g, 0, none⟩) ss := fun i hi => ⟨g, 0, rfl, h.1, by rw [Nat.zero_add]; exact h.2 i hi⟩
theorem CmdAt.news {w : World} {g a m : Nat} {ss : List ByteArray} (h : CmdAt w g ss) (hm : ((ss.drop a).take m).length = m) : ∀ (j : Nat) (u : Value), (((ss.drop a).take m).map Value.string)[j]? = some u → w.cell? ((⟨g, a, none⟩ : Addr).add j) = some u := by
  intro j u hu
  rw [List.getElem?_map] at hu
  obtain ⟨s, hs, rfl⟩ := Option.map_eq_some_iff.1 hu
  obtain ⟨hj, hs2⟩ := List.getElem?_eq_some_iff.1 hs
  rw [hm] at hj
  have hadd : (⟨g, a, none⟩ : Addr).add j = ⟨g, a + j, none⟩ := by unfold Addr.add; split <;> simp_all
  have hlen : a + j < ss.length := by
    rw [List.length_take, List.length_drop] at hm
    omega
  rw [hadd, h.2 (a + j) hlen]
  rw [List.getElem_take, List.getElem_drop] at hs2
  rw [hs2]
theorem append_same {P : Program} {t u ty e : TypeId} {args : Array Value} {w : World} (ht : P.underlying t = some (.slice e)) (hu : P.underlying u = some (.slice e)) : (Builtin.append_ #[t, u] ty args).run P w = (Builtin.append_ #[t, t] ty args).run P w := by
  unfold Builtin.append_
  simp only [List.getElem?_toArray, List.getElem?_cons_zero, List.getElem?_cons_succ]
  cases h0 : args[0]? with
  | none => rfl
  | some s =>
    cases h1 : args[1]? with
    | none => rfl
    | some x =>
      cases s with
      | slice base sLen sCap => simp [run_underlying ht, run_underlying hu]
      | _ => simp [run_underlying ht]
theorem wpList_append3 {P : Program} (w : World) {ops : Array Oper} {rest : List Oper} {o : Oper} {a : Act} {Q : Exit → Act → World → Prop} (hgd : o.guard = none) (s x : Operand) (t t2 : TypeId)
    (ho : o.op = .call { callee := .builtin .append, args := #[s, x], argTypes := #[t, t2] })
    (base : Nat) (e : TypeId) (i : TypeInfo) (z : Value) (size bytes : Nat) (ht : P.underlying t = some (.slice e)) (ht2 : P.underlying t2 = some (.slice e)) (hi : P.info? e = some i) (hz : i.zero = some z)
    (hsize : i.size = size) (hby : i.bytes = bytes) (hzs : z.cells.size = size) (hsz : 0 < size)
    (v : Value) (n : Nat) (xs : List Value) (hs : a.eval s = v) (hown : w.ownsRow base e size v n xs)
    (ad : Addr) (m c : Nat) (news : List Value) (hx : a.eval x = .slice (some ad) m c) (hl : news.length = m * size) (hm : 0 < m) (hnews : ∀ j u, news[j]? = some u → w.cell? (ad.add j) = some u) (h1 : ∀ u ∈ news, u.oneCell' = true)
    (h63 : n + m ≤ maxLen) (hbytes : (n + m) * bytes ≤ 140737488355328) (hbase : base ≤ w.heap.size)
    (h : ∀ v' w', w'.ownsRow base e size v' (n + m) (xs ++ news) → ((v'.ownBlock = v.ownBlock ∧ w.grownBy w' v.ownBlock) ∨ (∃ r, v'.ownBlock = some r ∧ w.heap.size ≤ r) ∧ w.grownBy w' none) → wpList P ops Q rest (a.put o.dst v') w') : wpList P ops Q (o :: rest) a w := by
  refine wpList_plain hgd fun K hK => ?_
  obtain ⟨v', w', hr, h2, h3⟩ := append_own2 (P := P) w base t o.type e i z size bytes ht hi hz hsize hby hzs hsz v n xs hown ad m c news hl hm hnews h1 h63 hbytes hbase
  rw [← append_same ht ht2] at hr
  unfold Oper.wp execOp
  simp only [ho, resolve, invoke, builtin, Sem.run_bind, Sem.run_pure, Result.andThen_ok, List.map_toArray, List.map_cons, List.map_nil, hs, hx, hr]
  exact hK _ _ (h v' w' h2 h3)
theorem kinfo_text : (Tryd.prog.info? 9).map (fun i => (i.zero, i.size, i.bytes)) = some (some (.string ⟨#[]⟩), 1, 16) := by kernel_rfl
set_option maxHeartbeats 4000000 in
set_option maxRecDepth 100000 in
theorem keys_any (g cap : Nat) (ss : List ByteArray) (w : World) (hne : 0 < ss.length) (hl : ss.length ≤ 1048576) (hs0 : ss[0].size ≤ 35184372088832) (hb : ∀ s ∈ ss, s.size ≤ 140737488351232) (hS : CmdAt w g ss) (hcap : ss.length ≤ cap) :
    Calls Tryd.prog 7 #[.slice (some ⟨g, 0, none⟩) ss.length cap] w fun e w' => ∃ o, Hit ⟨(lowT ss[0]).toArray⟩ o ∧ (∃ v, e = .returned v ∧ w'.ownsRow w.heap.size 9 1 v (keysL o ss).length ((keysL o ss).map Value.string)) ∧ Below w.heap.size w w' := by
  have HS := Lib.hid hS
  have HC := Lib.hid (check_any (some ⟨g, 0, none⟩) ss cap w hne (by omega) hs0 hb hS.strs)
  obtain ⟨s0, h0⟩ : ∃ s, s = ss[0] := ⟨_, rfl⟩
  have hc0 := hS.2 0 hne
  rw [← h0] at hs0 hc0 HC ⊢
  have HF := Lib.hid (fun w => find_all s0 w hs0)
  obtain ⟨i0, hi, hz0, hz1, hz2⟩ := info_parts kinfo_text
  have HI := Lib.hid hi
  have HZ0 := Lib.hid hz0
  have HZ1 := Lib.hid hz1
  have HZ2 := Lib.hid hz2
  obtain ⟨L, hL⟩ : ∃ L, L = ss.length := ⟨_, rfl⟩
  rw [← hL] at hl hne hcap HC ⊢
  have HL := Lib.hid hL
  have HC0 := Lib.hid hc0
  clear hS h0 hL hi hz0 hz1 hz2 hc0 hb
  have hpos : (0 : Int) < (L : Int) := by omega
  go_enter Tryd.func7, Tryd.ntmps7
  go_wp2_with fail
  refine HC.out.mono ?_
  rintro e w1 ⟨o, hh, rfl, b1⟩
  have HH := Lib.hid hh
  have B1 := Lib.hid b1
  clear b1 hh HC
  cases hck : chk o ss with
  | some t =>
    have HK : Hid (keysL o ss = []) := Lib.hid (by
      cases o with
      | none => rfl
      | some k => rw [keys_some, if_pos (by rw [hck]; rfl)])
    have HCK := Lib.hid hck
    clear hck
    unfold chkV repV
    simp only [Option.isSome_some]
    go_wp2_with fail
    go_ret
    refine ⟨o, HH.out, ⟨_, rfl, by rw [HK.out]; exact World.ownsRow_nil _ _ _ _⟩, ?_⟩
    exact B1.out.alloc B1.out.size _
  | none =>
    have HCK := Lib.hid hck
    cases o with
    | none => cases hck
    | some k =>
      clear hck
      unfold chkV repV
      simp only [Option.isSome_none]
      have hg1 : g < w1.heap.size := Nat.lt_of_lt_of_le HS.out.1 B1.out.size
      have g0 : (w1.alloc (.cells rep0 28)).cell? ⟨g, 0, none⟩ = some (.string s0) := by
        rw [World.cell?_alloc_past (.cells rep0 28) g 0 hg1]
        exact (B1.out.cell (p := ⟨g, 0, none⟩) HS.out.1).trans HC0.out
      have B2 := Lib.hid (B1.out.alloc B1.out.size (.cells rep0 28))
      clear hg1
      go_wp2_with fail
      refine (HF.out _).mono ?_
      rintro e w2 ⟨o2, hh2, rfl, b2⟩
      obtain rfl : o2 = some k := hit_one hh2 HH.out
      have B3 := Lib.hid (B2.out.trans (b2.mono B2.out.size))
      clear b2 hh2 g0
      rw [show specO (some k) = specV k from rfl, show (some k).isSome = true from rfl]
      unfold specV
      by_cases h5 : iv k 5 = 0
      · have HK : Hid (keysL (some k) ss = []) := Lib.hid (by rw [keys_some, if_neg (by rw [HCK.out]; decide), if_pos h5])
        have B4 := Lib.hid (B3.out.alloc B3.out.size (.cells (rowA k) 54))
        unfold rowA at B4
        rw [h5] at B4 ⊢
        clear h5
        go_wp2_with fail
        go_ret
        exact ⟨some k, HH.out, ⟨_, rfl, by rw [HK.out]; exact World.ownsRow_nil _ _ _ _⟩, B4.out⟩
      · obtain ⟨a, e, e5, e6, h0a, hae, hel, h6⟩ := key_at HH.out.1 HCK.out h5 (by rw [← HL.out]; exact hne)
        have HK : Hid (keysL (some k) ss = (ss.drop a).take (e + 1 - a)) := Lib.hid (by rw [keys_some, if_neg (by rw [HCK.out]; decide), if_neg h5, e6, e5]; rfl)
        rw [← HL.out] at hel h6
        have hB4 := B3.out.alloc B3.out.size (.cells (rowA k) 54)
        have n5 : ¬ (a : Int) = 0 := by omega
        have HG3 : Hid (CmdAt w2 g ss) := Lib.hid (HS.out.below B3.out)
        unfold rowA at hB4
        rw [e5] at hB4 ⊢
        have HB4 := Lib.hid hB4
        have HM : Hid (((ss.drop a).take (e + 1 - a)).length = e + 1 - a) := Lib.hid (by rw [List.length_take, List.length_drop]; have := HL.out; omega)
        clear hB4 h5 e5 e6
        rcases h6 with ⟨h6, hLe⟩ | h6
        · obtain ⟨f6, hf6⟩ : ∃ f6, f6 = iv k 6 := ⟨_, rfl⟩
          rw [← hf6] at h6 HB4 ⊢
          clear hf6
          have HB5 := Lib.hid (B3.out.alloc B3.out.size (.cells #[.string (nm k), .int .i64 (iv k 1), .int .i64 (iv k 2), .bool (bv k 3), .bool (bv k 4), .int .i64 (a : Int), .int .i64 (e : Int), .bool (bv k 7), .int .i64 (iv k 8)] 54))
          go_wp2_with (at_builtin; refine wpList_append3 _ rfl _ _ 22 23 rfl w.heap.size 9 i0 (.string ⟨#[]⟩) 1 16 Tryd.underlying22 Tryd.underlying23 HI.out HZ0.out HZ1.out HZ2.out rfl (by decide) _ _ _ rfl (World.ownsRow_nil _ _ _ _) ⟨g, a, none⟩ (e + 1 - a) (cap - a) (((ss.drop a).take (e + 1 - a)).map Value.string) rfl ?c0 ?c1 ?c2 ?c3 ?c4 ?c5 ?c6 ?_)
          case c0 => rw [List.length_map, HM.out]; omega
          case c1 => omega
          case c2 => exact (HG3.out.below ((Below.refl _ _).alloc (Nat.le_refl _) _)).news HM.out
          case c3 => intro u hu; obtain ⟨s, _, rfl⟩ := List.mem_map.1 hu; rfl
          case c4 => unfold maxLen; omega
          case c5 => omega
          case c6 => have := B3.out.size; simp; omega
          intro v5 w5 hown hgr
          have hgr2 := (show (_ : World).grownBy w5 none by
            rcases hgr with ⟨_, k⟩ | ⟨_, k⟩
            · exact k
            · exact k)
          have HO : Hid (w5.ownsRow w.heap.size 9 1 v5 (keysL (some k) ss).length ((keysL (some k) ss).map Value.string)) := Lib.hid (by
            rw [HK.out, HM.out]
            simpa using hown)
          have HBE := Lib.hid (HB5.out.grown hgr2 (by have := B3.out.size; simp; omega) (fun b hb => by cases hb))
          clear hown hgr hgr2
          go_wp2_with fail
          go_ret
          exact ⟨some k, HH.out, ⟨_, rfl, HO.out⟩, ⟨HBE.out.os, HBE.out.tape, HBE.out.output, HBE.out.size, HBE.out.block⟩⟩
        · rw [h6] at HB4 ⊢
          have h6n : ¬ ((e : Int) < 0) := by omega
          have HB5 := HB4
          clear h6
          go_wp2_with (at_builtin; refine wpList_append3 _ rfl _ _ 22 23 rfl w.heap.size 9 i0 (.string ⟨#[]⟩) 1 16 Tryd.underlying22 Tryd.underlying23 HI.out HZ0.out HZ1.out HZ2.out rfl (by decide) _ _ _ rfl (World.ownsRow_nil _ _ _ _) ⟨g, a, none⟩ (e + 1 - a) (cap - a) (((ss.drop a).take (e + 1 - a)).map Value.string) rfl ?c0 ?c1 ?c2 ?c3 ?c4 ?c5 ?c6 ?_)
          case c0 => rw [List.length_map, HM.out]; omega
          case c1 => omega
          case c2 => exact (HG3.out.below ((Below.refl _ _).alloc (Nat.le_refl _) _)).news HM.out
          case c3 => intro u hu; obtain ⟨s, _, rfl⟩ := List.mem_map.1 hu; rfl
          case c4 => unfold maxLen; omega
          case c5 => omega
          case c6 => have := B3.out.size; simp; omega
          intro v5 w5 hown hgr
          have hgr2 := (show (_ : World).grownBy w5 none by
            rcases hgr with ⟨_, k⟩ | ⟨_, k⟩
            · exact k
            · exact k)
          have HO : Hid (w5.ownsRow w.heap.size 9 1 v5 (keysL (some k) ss).length ((keysL (some k) ss).map Value.string)) := Lib.hid (by
            rw [HK.out, HM.out]
            simpa using hown)
          have HBE := Lib.hid (HB5.out.grown hgr2 (by have := B3.out.size; simp; omega) (fun b hb => by cases hb))
          clear hown hgr hgr2
          go_wp2_with fail
          go_ret
          exact ⟨some k, HH.out, ⟨_, rfl, HO.out⟩, ⟨HBE.out.os, HBE.out.tape, HBE.out.output, HBE.out.size, HBE.out.block⟩⟩
end Go.Proofs.YtpanbijlfijgfaaDoor.Fnd
