import Derived.Test.YtpnmhldaaaemeaaMa15
import Derived.Test.YtpnmhldaaaemeaaMa11
import Derived.Laws.CopyRow
import Derived.Tactics
import Derived.Tactics2
import Derived.Defers
import Derived.Recover
import Derived.Laws.Pointers
import Derived.Test.YtpnmhldaaaemeaaMa12
/- Chapter 24: a reader: all items. -/
namespace Go.Proofs.Ytpnmhldaaaemeaa.Snp
open Go.RowKit Go.Proofs.Ytpnmhldaaaemeaa.Pin

theorem wpList_store_part {P : Program} {ops : Array Oper} {rest : List Oper} {op : Oper} {a : Act} {w : World} {Q : Exit → Act → World → Prop} (hgd : op.guard = none) (ty : TypeId) (x y : Operand) (ho : op.op = .store ty x y)
    (g o : Nat) (cells : Array Value) (hx : a.eval x = .pointer (some ⟨g, o, none⟩)) (hy : a.eval y = .agg cells) (t : TypeId) (cur : Array Value) (hg : w.heap[g]? = some (.cells cur t (0, 0))) (hi : (P.info? ty).map (·.size) = some cells.size)
    (hfit : o + cells.size ≤ cur.size) (h1 : cells.all (·.oneCell') = true) (new : Array Value) (hn : (cur.toList.take o ++ cells.toList ++ cur.toList.drop (o + cells.size)).toArray = new)
    (h : wpList P ops Q rest (a.put op.dst undef) (w.setRow g new)) : wpList P ops Q (op :: rest) a w := by
  refine wpList_plain hgd fun K hK => ?_
  have hst := run_storeCells_at P g o t cells.toList 0 cur w hg (by simpa using hfit) (fun v hv => (Array.all_eq_true_iff_forall_mem.1 h1) v (by simpa using hv))
  simp only [Nat.add_zero, Array.length_toList] at hst
  rw [hn] at hst
  have hsv : (storeVar ty ⟨g, o, none⟩ (.agg cells)).run P w = .ok () (w.setRow g new) := by
    cases hq : P.info? ty with
    | none => simp [hq] at hi
    | some i =>
      have hs : cells.size = i.size := by simp [hq] at hi; omega
      simp [storeVar, sizeOf, typeInfo, hq, Value.cells, hs, hst]
  unfold Oper.wp execOp
  simp only [ho, hx, hy, Instr.storeAt, Instr.sureAddr, Sem.run_bind, Sem.run_pure, Result.andThen_ok, hsv]
  exact hK _ _ h
theorem Rdr.row {w : World} {g b : Nat} {s : List UInt8} (h : Rdr w g s) (hne : b ≠ g) (cs : Array Value) : Rdr (w.setRow b cs) g s := (setRow_other w b g cs (Ne.symm hne)).trans h
theorem Turns.row {g b : Nat} {w w' : World} (h : Turns g w w') (hb : w.heap.size ≤ b) (cs : Array Value) : Turns g w (w'.setRow b cs) :=
  ⟨h.os, h.tape, h.output, by simpa using h.size, fun k hk hkg => (setRow_other w' b k cs (by omega)).trans (h.block k hk hkg)⟩
/-- how an item lies in memory -/
def ItEl (w : World) (ok : Nat → Prop) (it : It) (cs : List Value) : Prop := ∃ c, cs = icells it c ∧ VOn w ok c it.val
theorem it_el : ElP ItEl := ⟨fun _ _ _ _ _ ⟨c, e, h⟩ hs hk => ⟨c, e, h.keep hs hk⟩, fun _ _ _ _ _ ⟨c, e, h⟩ hk => ⟨c, e, h.mono hk⟩⟩
abbrev ItemsOn (w : World) (ok : Nat → Prop) (v : Value) (l : List It) : Prop := LOn 12 ItEl w ok v l
theorem info_item : (Try.prog.info? 33).map (fun i => (i.zero, i.size, i.bytes)) = some (some (.agg #[.int .i64 0, .string ⟨#[]⟩, .int .u8 0, .string ⟨#[]⟩, nilS, nilS, nilS, nilS, nilS, .int .u64 0, .int .u64 0, .int .i64 0]), 12, 192) := by kernel_rfl
/-! ### The parser, step by step -/
theorem it_none {r : List UInt8} (h : numP 1 r = none) : itemsP r = none := by rw [itemsP_eq, h]; rfl
theorem it_bad {n : Nat} {r r1 : List UInt8} (h : numP 1 r = some (n, r1)) (h0 : n ≠ 0) (h1 : n ≠ 1) : itemsP r = none := by
  rw [itemsP_eq, h]
  simp only [Option.bind_some, if_neg h0, if_neg h1]
theorem it_end {r r1 : List UInt8} (h : numP 1 r = some (0, r1)) : itemsP r = some ([], r1) := by
  rw [itemsP_eq, h]
  rfl
theorem it_step {r r1 : List UInt8} (h : numP 1 r = some (1, r1)) : itemsP r = (itemP r1).bind fun y => (itemsP y.2).map fun z => (y.1 :: z.1, z.2) := by
  rw [itemsP_eq, h]
  rfl
theorem itemP_eq (r : List UInt8) : itemP r = (numP 1 r).bind fun d => (numP 8 d.2).bind fun e => (textP e.2).bind fun t => (kindP t.2).map fun v => (⟨(d.1 : Int), t.1, v.1, i64 e.1⟩, v.2) := by
  unfold itemP mapP thenP
  cases numP 1 r with
  | none => rfl
  | some d =>
    simp only [Option.bind_some]
    cases numP 8 d.2 with
    | none => rfl
    | some e =>
      simp only [Option.map_some, Option.bind_some]
      cases textP e.2 with
      | none => rfl
      | some t =>
        simp only [Option.map_some, Option.bind_some]
        cases kindP t.2 <;> rfl
theorem valP_bad {k : Nat} (h : k < 1 ∨ 6 < k) (s : List UInt8) : valP k s = none := by
  unfold valP
  split
  all_goals first | rfl | omega
theorem itemP_len {r r' : List UInt8} {x : It} (h : itemP r = some (x, r')) : r'.length ≤ r.length := by
  have h1 := (inv_item.fwd _ _ _ h).2
  rw [h1, List.length_append]
  omega
def rlen (w : World) (g : Nat) : Nat := match w.heap[g]? with
  | some (.cells cs _ _) => match cs[0]? with
    | some (Value.string b) => b.size
    | _ => 0
  | _ => 0
theorem rlen_of {w : World} {g : Nat} {s : List UInt8} (h : Rdr w g s) : rlen w g = s.length := by
  unfold rlen
  simp only [Rdr] at h
  rw [h]
  show s.toArray.size = _
  simp
abbrev row0 (d : Nat) : Array Value := #[.int .i64 (d : Int), .string ⟨#[]⟩, .int .u8 0, .string ⟨#[]⟩, nilS, nilS, nilS, nilS, nilS, .int .u64 0, .int .u64 0, .int .i64 0]
theorem ito_all {W : World} {b : Nat} {it : It} {c : Cl} (h : W.heap[b]? = some (iO it c)) :
    W.cell? ⟨b, 0, none⟩ = some (.int .i64 it.db) ∧ W.cell? ⟨b, 1, none⟩ = some (.string it.key) ∧ W.cell? ⟨b, 2, none⟩ = some (.int .u8 (it.val.kind : Int)) ∧ W.cell? ⟨b, 3, none⟩ = some (.string it.val.text) ∧ W.cell? ⟨b, 4, none⟩ = some (c.lv) ∧ W.cell? ⟨b, 5, none⟩ = some (c.hv) ∧ W.cell? ⟨b, 6, none⟩ = some (c.sv) ∧ W.cell? ⟨b, 7, none⟩ = some (c.zv) ∧ W.cell? ⟨b, 8, none⟩ = some (c.ev) ∧ W.cell? ⟨b, 9, none⟩ = some (.int .u64 (it.val.ms : Int)) ∧ W.cell? ⟨b, 10, none⟩ = some (.int .u64 (it.val.seq : Int)) ∧ W.cell? ⟨b, 11, none⟩ = some (.int .i64 it.dead) := by
  refine ⟨?_, ?_, ?_, ?_, ?_, ?_, ?_, ?_, ?_, ?_, ?_, ?_⟩ <;> (rw [Lib.cell_of_heap h]; rfl)
abbrev itRow (it : It) (c : Cl) : Array Value := (icells it c).toArray
abbrev row1 (d : Nat) (e : Int) : Array Value := #[.int .i64 (d : Int), .string ⟨#[]⟩, .int .u8 0, .string ⟨#[]⟩, nilS, nilS, nilS, nilS, nilS, .int .u64 0, .int .u64 0, .int .i64 e]
abbrev row2 (d : Nat) (e : Int) (t : ByteArray) : Array Value := #[.int .i64 (d : Int), .string t, .int .u8 0, .string ⟨#[]⟩, nilS, nilS, nilS, nilS, nilS, .int .u64 0, .int .u64 0, .int .i64 e]
set_option maxHeartbeats 8000000 in
set_option maxRecDepth 100000 in
theorem items_rd (s : List UInt8) (g : Nat) (w : World) (h : Rdr w g s) (hs : s.length ≤ 549755813888) :
    Reads 27 #[.pointer (some ⟨g, 0, none⟩)] w g s itemsP (fun l v w' => ItemsOn w' (fun r => w.heap.size ≤ r) v l) := by
  have HS := Lib.hid hs
  have HR0 := Lib.hid h
  have HG := Lib.hid h.lt
  obtain ⟨i0, hi, hz0, hz1, hz2⟩ := info_parts info_item
  have HI := Lib.hid hi
  have HZ0 := Lib.hid hz0
  have HZ1 := Lib.hid hz1
  have HZ2 := Lib.hid hz2
  unfold Reads
  clear h hs hi hz0 hz1 hz2
  go_enter Try.func27, Try.ntmps27
  go_wp2_with fail
  refine (kinds_any w).mono ?_
  rintro e w1 ⟨rfl, hb1⟩
  have HB1 := Lib.hid hb1
  clear hb1
  go_wp2_with (refine wpList_store_row rfl 59 (.tmp 3) (.tmp 6) (by rfl) w1.heap.size kindsA (by rfl) (by rfl) 59 zeroA (heap_alloc_new w1 _) kinds_size rfl (by kernel_rfl) ?_)
  rw [World.setRow_alloc_new]
  obtain ⟨W, hW⟩ : ∃ W, W = w1.alloc (.cells kindsA 59) := ⟨_, rfl⟩
  obtain ⟨ab, hab⟩ : ∃ ab, ab = w1.heap.size := ⟨_, rfl⟩
  have HK0 : Hid (W.heap[ab]? = some (.cells kindsA 59 (0, 0))) := Lib.hid (by rw [hW, hab]; exact heap_alloc_new w1 _)
  have HTW : Hid (Turns g w W) := Lib.hid (by rw [hW]; exact (Turns.of_below HB1.out).trans (Turns.alloc g w1 _))
  have HRW : Hid (Rdr W g s) := Lib.hid (by rw [hW]; exact (HR0.out.of_below HB1.out).alloc _)
  have HGA : Hid (ab ≠ g ∧ ab < W.heap.size ∧ g < W.heap.size) := Lib.hid (by
    have h1 := HG.out
    have h2 := HB1.out.size
    have h3 : W.heap.size = w1.heap.size + 1 := by rw [hW]; simp
    exact ⟨by omega, by omega, by omega⟩)
  rw [← hW, ← hab]
  clear hW hab HB1 HR0
  rw [show ∀ a : Act, a.put none undef = a from fun _ => rfl]
  go_loopw [2] (fun out wr => ∃ (ls : List It) (r : List UInt8), Hid (itemsP s = (itemsP r).map (fun y => (ls ++ y.1, y.2))) ∧ Hid (Rdr wr g r) ∧ Hid (Turns g W wr) ∧ Hid (Acc 33 12 ItEl W.heap.size wr out ls) ∧ Hid (ls.length + r.length ≤ s.length)) (fun _ wr => rlen wr g)
  case atStart => exact ⟨[], s, Lib.hid (by cases itemsP s <;> rfl), HRW, Lib.hid (Turns.refl _ _), Lib.hid (acc_nil _), Lib.hid (by simp)⟩
  case round =>
    obtain ⟨ls, r, HM, HR, HT, HA, HLE⟩ := hrel
    obtain ⟨A, c, rfl⟩ := HA.out.slice
    have HN := Lib.hid (number_rd 1 r g wr HR.out (by have := HLE.out; have := HS.out; omega) (by decide))
    go_wp2_with fail
    refine HN.out.mono ?_
    intro e w2 hg
    cases hn : numP 1 r with
    | none =>
      rw [hn] at hg
      obtain ⟨rfl, ht⟩ := hg.none_of
      have HT2F := Lib.hid (HTW.out.trans (HT.out.trans ht))
      have E1 := Lib.hid (show itemsP s = none by rw [HM.out, it_none hn]; rfl)
      clear hg ht hn
      go_wp2_with fail
      exact ⟨rfl, by rw [E1.out]; exact ⟨rfl, HT2F.out⟩⟩
    | some x =>
      obtain ⟨n, r1⟩ := x
      rw [hn] at hg
      obtain ⟨⟨v, rfl, rfl⟩, hr, ht⟩ := hg.some_of
      have HT2 := Lib.hid ht
      have HR2 := Lib.hid hr
      by_cases h0 : n = 0
      · subst h0
        have E1 := Lib.hid (show itemsP s = some (ls, r1) by rw [HM.out, it_end hn]; simp)
        have HA2 := Lib.hid (HA.out.turns it_el ht HGA.out.2.2)
        clear hg ht hn hr
        go_wp2_with fail
        go_ret
        rw [E1.out]
        exact ⟨⟨_, rfl, (HA2.out.lon it_el).mono it_el (fun q _ hq => Nat.le_trans HTW.out.size hq)⟩, HR2.out, HTW.out.trans (HT.out.trans HT2.out)⟩
      · by_cases h1 : n = 1
        · subst h1
          have HN1 := Lib.hid hn
          have HL1 := Lib.hid (numP_len hn).2
          have HRD := Lib.hid (number_rd 1 r1 g w2 hr (by have := HLE.out; have := HS.out; have := (numP_len hn).2; omega) (by decide))
          clear hg ht hn hr h0
          go_wp2_with fail
          refine HRD.out.mono ?_
          intro e w3 hg
          cases hd : numP 1 r1 with
          | none =>
            rw [hd] at hg
            obtain ⟨rfl, ht⟩ := hg.none_of
            have HTF := Lib.hid (HTW.out.trans (HT.out.trans (HT2.out.trans ht)))
            have E1 := Lib.hid (show itemsP s = none by rw [HM.out, it_step HN1.out, itemP_eq, hd]; rfl)
            clear hg ht hd
            go_wp2_with fail
            exact ⟨rfl, by rw [E1.out]; exact ⟨rfl, HTF.out⟩⟩
          | some x =>
            obtain ⟨d, r2⟩ := x
            rw [hd] at hg
            obtain ⟨⟨v, rfl, rfl⟩, hr, ht⟩ := hg.some_of
            have HT3 := Lib.hid (HT2.out.trans ht)
            have HD := Lib.hid hd
            obtain ⟨hd1, hd2⟩ := numP_len hd
            have hw : IntKind.i64.wrap (d : Int) = (d : Int) := by rw [IntKind.wrap_i64]; omega
            obtain ⟨bx, hbx⟩ : ∃ bx, bx = w3.heap.size := ⟨_, rfl⟩
            have HBX : Hid (W.heap.size ≤ bx ∧ bx ≠ g ∧ wr.heap.size ≤ bx) := Lib.hid (by
              have h1 := HT3.out.size
              have h2 := HGA.out.2.2
              have h3 := HT.out.size
              exact ⟨by omega, by omega, by omega⟩)
            have HX3 := Lib.hid (show (w3.alloc (.cells (row0 d) 33)).heap[bx]? = some (.cells (row0 d) 33 (0, 0)) by rw [hbx]; exact heap_alloc_new w3 _)
            have HR3 := Lib.hid (hr.alloc (.cells (row0 d) 33))
            have HT3' := Lib.hid (HT3.out.trans (Turns.alloc g w3 (.cells (row0 d) 33)))
            have HRE := Lib.hid (number_rd 8 r2 g (w3.alloc (.cells (row0 d) 33)) HR3.out (by have := HLE.out; have := HS.out; have := HL1.out; omega) (by decide))
            have HL2 := Lib.hid hd2
            clear hg ht hd hr hd1 hd2
            go_wp2_with (refine wpList_store_row rfl 33 (.tmp 4) (.tmp 19) (by rfl) w3.heap.size (row0 d) (by rfl) (by rfl) 33 #[.int .i64 0, .string ⟨#[]⟩, .int .u8 0, .string ⟨#[]⟩, nilS, nilS, nilS, nilS, nilS, .int .u64 0, .int .u64 0, .int .i64 0] (heap_alloc_new w3 _) item_size rfl (by simp [Value.oneCell']) ?_)
            rw [World.setRow_alloc_new]
            go_wp2_with fail
            refine HRE.out.mono ?_
            rw [← hbx]
            clear hbx
            intro e w4 hg
            cases he : numP 8 r2 with
            | none =>
              rw [he] at hg
              obtain ⟨rfl, ht⟩ := hg.none_of
              have HTF := Lib.hid (HTW.out.trans (HT.out.trans (HT3'.out.trans ht)))
              have E1 := Lib.hid (show itemsP s = none by rw [HM.out, it_step HN1.out, itemP_eq, HD.out]; simp only [Option.bind_some]; rw [he]; rfl)
              clear hg ht he
              go_wp2_with fail
              exact ⟨rfl, by rw [E1.out]; exact ⟨rfl, HTF.out⟩⟩
            | some x =>
              obtain ⟨e, r3⟩ := x
              rw [he] at hg
              obtain ⟨⟨v, rfl, rfl⟩, hr, ht⟩ := hg.some_of
              obtain ⟨de, hde⟩ : ∃ de, de = i64 e := ⟨_, rfl⟩
              have hw2 : IntKind.i64.wrap (e : Int) = de := by rw [hde]; rfl
              have HDE := Lib.hid hde
              have HE := Lib.hid he
              have hb4 := (ht.block bx (Array.getElem?_eq_some_iff.1 HX3.out).1 HBX.out.2.1).trans HX3.out
              have hc4 : w4.cell? ⟨bx, 11, none⟩ = some (.int .i64 0) := by rw [Lib.cell_of_heap hb4]; rfl
              have hf4 : w4.frozen? ⟨bx, 11, none⟩ = false := by simp [World.frozen?, hb4]
              have hs4 : w4.setCell ⟨bx, 11, none⟩ (.int .i64 de) = w4.setRow bx (row1 d de) := by rw [setCell_eq_setRow w4 bx 11 _ _ (0, 0) _ hb4]; rfl
              have HX4 := Lib.hid (setRow_heap w4 bx _ (row1 d de) _ _ hb4)
              have HR4 := Lib.hid (hr.row HBX.out.2.1 (row1 d de))
              have HT4 := Lib.hid ((HT3'.out.trans ht).row HBX.out.2.2 (row1 d de))
              have HL3 := Lib.hid (numP_len he).2
              have HRT := Lib.hid (text_rd r3 g (w4.setRow bx (row1 d de)) HR4.out (by have := HLE.out; have := HS.out; have := HL1.out; have := HL2.out; have := (numP_len he).2; omega))
              clear hg ht he hr hb4 hde
              go_wp2_with fail
              clear hs4 hc4 hf4 hw2
              refine HRT.out.mono ?_
              intro e' w5 hg
              cases hx : textP r3 with
              | none =>
                rw [hx] at hg
                obtain ⟨rfl, ht⟩ := hg.none_of
                have HTF := Lib.hid (HTW.out.trans (HT.out.trans (HT4.out.trans ht)))
                have E1 := Lib.hid (show itemsP s = none by rw [HM.out, it_step HN1.out, itemP_eq, HD.out]; simp only [Option.bind_some]; rw [HE.out]; simp only [Option.bind_some]; rw [hx]; rfl)
                clear hg ht hx
                go_wp2_with fail
                exact ⟨rfl, by rw [E1.out]; exact ⟨rfl, HTF.out⟩⟩
              | some x =>
                obtain ⟨t, r4⟩ := x
                rw [hx] at hg
                obtain ⟨⟨v, rfl, rfl⟩, hr, ht⟩ := hg.some_of
                have HXT := Lib.hid hx
                have hb5 := (ht.block bx (Array.getElem?_eq_some_iff.1 HX4.out).1 HBX.out.2.1).trans HX4.out
                have hc5 : w5.cell? ⟨bx, 1, none⟩ = some (.string ⟨#[]⟩) := by rw [Lib.cell_of_heap hb5]; rfl
                have hf5 : w5.frozen? ⟨bx, 1, none⟩ = false := by simp [World.frozen?, hb5]
                have hs5 : w5.setCell ⟨bx, 1, none⟩ (.string t) = w5.setRow bx (row2 d de t) := by rw [setCell_eq_setRow w5 bx 1 _ _ (0, 0) _ hb5]; rfl
                have HX5 := Lib.hid (setRow_heap w5 bx _ (row2 d de t) _ _ hb5)
                have HR5 := Lib.hid (hr.row HBX.out.2.1 (row2 d de t))
                have HT5 := Lib.hid ((HT4.out.trans ht).row HBX.out.2.2 (row2 d de t))
                have HL4 := Lib.hid (textP_len hx)
                have HRK := Lib.hid (number_rd 1 r4 g (w5.setRow bx (row2 d de t)) HR5.out (by have := HLE.out; have := HS.out; have := HL1.out; have := HL2.out; have := HL3.out; have := textP_len hx; omega) (by decide))
                clear hg ht hx hr hb5
                go_wp2_with fail
                clear hs5 hc5 hf5
                refine HRK.out.mono ?_
                intro e' w6 hg
                cases hk : numP 1 r4 with
                | none =>
                  rw [hk] at hg
                  obtain ⟨rfl, ht⟩ := hg.none_of
                  have HTF := Lib.hid (HTW.out.trans (HT.out.trans (HT5.out.trans ht)))
                  have E1 := Lib.hid (show itemsP s = none by rw [HM.out, it_step HN1.out, itemP_eq, HD.out]; simp only [Option.bind_some]; rw [HE.out]; simp only [Option.bind_some]; rw [HXT.out]; simp only [Option.bind_some]; unfold kindP; rw [hk]; rfl)
                  clear hg ht hk
                  go_wp2_with fail
                  exact ⟨rfl, by rw [E1.out]; exact ⟨rfl, HTF.out⟩⟩
                | some x =>
                  obtain ⟨k, r5⟩ := x
                  rw [hk] at hg
                  obtain ⟨⟨v, rfl, rfl⟩, hr, ht⟩ := hg.some_of
                  have HKK := Lib.hid hk
                  have HX6 := Lib.hid ((ht.block bx (Array.getElem?_eq_some_iff.1 HX5.out).1 HBX.out.2.1).trans HX5.out)
                  have HT6 := Lib.hid (HT5.out.trans ht)
                  have HR6 := Lib.hid hr
                  have HL5 := Lib.hid (numP_len hk).2
                  have EQ : Hid (itemP r1 = (valP k r5).map fun v => (⟨(d : Int), t, v.1, de⟩, v.2)) := Lib.hid (by
                    rw [itemP_eq, HD.out]; simp only [Option.bind_some]; rw [HE.out]; simp only [Option.bind_some]; rw [HXT.out]; simp only [Option.bind_some]; unfold kindP; rw [hk, HDE.out]; rfl)
                  clear hg ht hk hr
                  by_cases hb : k < 1 ∨ 6 < k
                  · have E1 := Lib.hid (show itemsP s = none by rw [HM.out, it_step HN1.out, EQ.out, valP_bad hb]; rfl)
                    have HTF := Lib.hid (HTW.out.trans (HT.out.trans HT6.out))
                    rcases hb with hb | hb
                    · have q1 : decide ((k : Int) < 1) = true := decide_eq_true (by omega)
                      have q2 : decide (k < 1) = true := decide_eq_true hb
                      clear hb
                      go_wp2_with fail
                      exact ⟨rfl, by rw [E1.out]; exact ⟨rfl, HTF.out⟩⟩
                    · have q1 : decide ((k : Int) < 1) = false := decide_eq_false (by omega)
                      have q2 : decide (k < 1) = false := decide_eq_false (by omega)
                      have q3 : decide ((6 : Int) < (k : Int)) = true := decide_eq_true (by omega)
                      have q4 : decide (6 < k) = true := decide_eq_true hb
                      clear hb
                      go_wp2_with fail
                      exact ⟨rfl, by rw [E1.out]; exact ⟨rfl, HTF.out⟩⟩
                  · have HKB : Hid (1 ≤ k ∧ k ≤ 6) := Lib.hid (by omega)
                    have q1 : decide ((k : Int) < 1) = false := decide_eq_false (by omega)
                    have q2 : decide (k < 1) = false := decide_eq_false (by omega)
                    have q3 : decide ((6 : Int) < (k : Int)) = false := decide_eq_false (by omega)
                    have q4 : decide (6 < k) = false := decide_eq_false (by omega)
                    have q5 : (k : Int) < 7 := by omega
                    have hte := take_enter k HKB.out.1 HKB.out.2
                    have hk6 : w6.cell? ⟨ab, k * 3 + 2, none⟩ = some (.func (.func (takeF k)) #[] #[]) := by
                      rw [Lib.cell_of_heap (((HT.out.trans HT6.out).block ab HGA.out.2.1 HGA.out.1).trans HK0.out)]
                      have hk : k = 1 ∨ k = 2 ∨ k = 3 ∨ k = 4 ∨ k = 5 ∨ k = 6 := by omega
                      rcases hk with rfl | rfl | rfl | rfl | rfl | rfl <;> rfl
                    have HTK := Lib.hid (take_any k HKB.out.1 HKB.out.2 r5 g w6 HR6.out (by have := HLE.out; have := HS.out; have := HL1.out; have := HL2.out; have := HL3.out; have := HL4.out; have := HL5.out; omega))
                    clear hb
                    go_wp2_with fail
                    refine HTK.out.mono ?_
                    intro e' w7 hg
                    cases hv : valP k r5 with
                    | none =>
                      rw [hv] at hg
                      obtain ⟨rfl, ht⟩ := hg.none_of
                      have HTF := Lib.hid (HTW.out.trans (HT.out.trans (HT6.out.trans ht)))
                      have E1 := Lib.hid (show itemsP s = none by rw [HM.out, it_step HN1.out, EQ.out, hv]; rfl)
                      clear hg ht hv
                      go_wp2_with fail
                      exact ⟨rfl, by rw [E1.out]; exact ⟨rfl, HTF.out⟩⟩
                    | some x =>
                      obtain ⟨va, r6⟩ := x
                      rw [hv] at hg
                      obtain ⟨⟨u, rfl, cl, rfl, hvo⟩, hr, ht⟩ := hg.some_of
                      obtain ⟨it, hit⟩ : ∃ it : It, it = ⟨(d : Int), t, va, de⟩ := ⟨_, rfl⟩
                      have EI : Hid (itemP r1 = some (it, r6)) := Lib.hid (by rw [EQ.out, hv, hit]; rfl)
                      have HB7 := Lib.hid ((ht.block bx (Array.getElem?_eq_some_iff.1 HX6.out).1 HBX.out.2.1).trans HX6.out)
                      have HX7 := Lib.hid (setRow_heap w7 bx _ (itRow it cl) _ _ HB7.out)
                      have HR7 := Lib.hid (hr.row HBX.out.2.1 (itRow it cl))
                      have HT7 := Lib.hid ((HT6.out.trans ht).row HBX.out.2.2 (itRow it cl))
                      have HV7 : Hid (VOn (w7.setRow bx (itRow it cl)) (fun q => w6.heap.size ≤ q) cl it.val) := Lib.hid (by
                        rw [hit]
                        have hbl := (Array.getElem?_eq_some_iff.1 HX6.out).1
                        exact hvo.keep (by simp) (fun q hq _ => setRow_other w7 bx q _ (by omega)))
                      obtain ⟨A1, n1, e1, -⟩ := hvo.list
                      obtain ⟨A2, n2, e2, -⟩ := hvo.hash
                      obtain ⟨A3, n3, e3, -⟩ := hvo.set
                      obtain ⟨A4, n4, e4, -⟩ := hvo.zset
                      obtain ⟨A5, n5, e5, -⟩ := hvo.stream
                      have HO9 : Hid ((#[.int .u8 (va.kind : Int), .string va.text, cl.lv, cl.hv, cl.sv, cl.zv, cl.ev, .int .u64 (va.ms : Int), .int .u64 (va.seq : Int)] : Array Value).all (·.oneCell') = true) := Lib.hid (by simp [e1, e2, e3, e4, e5, Value.oneCell'])
                      have HO12 : Hid (∀ u ∈ icells it cl, u.oneCell' = true) := Lib.hid (by rw [hit]; simp [icells, e1, e2, e3, e4, e5, Value.oneCell'])
                      have HNEW : Hid (((row2 d de t).toList.take 2 ++ (#[.int .u8 (va.kind : Int), .string va.text, cl.lv, cl.hv, cl.sv, cl.zv, cl.ev, .int .u64 (va.ms : Int), .int .u64 (va.seq : Int)] : Array Value).toList ++ (row2 d de t).toList.drop (2 + (#[.int .u8 (va.kind : Int), .string va.text, cl.lv, cl.hv, cl.sv, cl.zv, cl.ev, .int .u64 (va.ms : Int), .int .u64 (va.seq : Int)] : Array Value).size)).toArray = itRow it cl) := Lib.hid (by rw [hit]; rfl)
                      have HL6 := Lib.hid (itemP_len EI.out)
                      have HSZ6 : Hid (wr.heap.size ≤ w6.heap.size ∧ w6.heap.size ≤ w7.heap.size) := Lib.hid ⟨by have := (Array.getElem?_eq_some_iff.1 HX6.out).1; have := HBX.out.2.2; omega, ht.size⟩
                      obtain ⟨css, a1, a2, a3⟩ := HA.out.turns it_el HT7.out HGA.out.2.2
                      have HC2 := Lib.hid (a2.alloc (iO it cl))
                      have HOL : Hid (∀ q, (Value.slice A ls.length c).ownBlock = some q → q < wr.heap.size) := Lib.hid (fun q hq => by
                        obtain ⟨css', _, d2, _⟩ := HA.out
                        exact (d2.lt q hq).2)
                      have HA2 := Lib.hid a2
                      have HSW : Hid (W.heap.size ≤ (w7.setRow bx (itRow it cl)).heap.size ∧ wr.heap.size ≤ (w7.setRow bx (itRow it cl)).heap.size) := Lib.hid ⟨by have := HT.out.size; have := HT7.out.size; omega, HT7.out.size⟩
                      have HBB : Hid (W.heap.size ≤ ((w7.setRow bx (itRow it cl)).alloc (iO it cl)).heap.size) := Lib.hid (Nat.le_trans HSW.out.1 (by simp))
                      have HLB : Hid (ls.length + 1 ≤ 549755813888) := Lib.hid (by have := HLE.out; have := HS.out; have := HL1.out; have := itemE_len it; have h1 := (inv_num 1).fwd _ _ _ HN1.out; have h2 := congrArg List.length h1.2; rw [List.length_append, leB_len] at h2; omega)
                      have HLE2 : Hid ((ls ++ [it]).length + r6.length ≤ s.length) := Lib.hid (by
                        have h1 := (inv_num 1).fwd _ _ _ HN1.out
                        have h2 := congrArg List.length h1.2
                        have := HLE.out
                        have := HL6.out
                        rw [List.length_append, leB_len] at h2
                        simp only [List.length_append, List.length_cons, List.length_nil]
                        omega)
                      have HM2 : Hid (itemsP s = (itemsP r6).map (fun y => ((ls ++ [it]) ++ y.1, y.2))) := Lib.hid (by
                        rw [HM.out, it_step HN1.out, EI.out]
                        simp only [Option.bind_some]
                        cases itemsP r6 <;> simp)
                      have HME : Hid (r6.length < r.length) := Lib.hid (by
                        have h1 := (inv_num 1).fwd _ _ _ HN1.out
                        have h2 := congrArg List.length h1.2
                        have := HL6.out
                        rw [List.length_append, leB_len] at h2
                        omega)
                      obtain ⟨x0, x1, x2, x3, x4, x5, x6, x7, x8, x9, x10, x11⟩ := ito_all (show (w7.setRow bx (itRow it cl)).heap[bx]? = some (iO it cl) from HX7.out)
                      clear hg ht hv hr e1 e2 e3 e4 e5 hvo hte hk6 q1 q2 q3 q4 q5 hit a2
                      go_wp2_with (first
                        | (refine wpList_store_part rfl 31 (.tmp 43) (.tmp 42) (by rfl) bx 2 #[.int .u8 (va.kind : Int), .string va.text, cl.lv, cl.hv, cl.sv, cl.zv, cl.ev, .int .u64 (va.ms : Int), .int .u64 (va.seq : Int)] (by rfl) (by rfl) 33 (row2 d de t) HB7.out value_size (by simp) HO9.out (itRow it cl) HNEW.out ?_)
                        | (at_builtin; refine wpList_append_row _ rfl _ _ 36 rfl W.heap.size 33 i0 (.agg #[.int .i64 0, .string ⟨#[]⟩, .int .u8 0, .string ⟨#[]⟩, nilS, nilS, nilS, nilS, nilS, .int .u64 0, .int .u64 0, .int .i64 0]) 12 192 Try.underlying36 HI.out HZ0.out HZ1.out HZ2.out rfl (by decide) _ _ _ rfl HC2.out ⟨w7.heap.size, 0, none⟩ 1 1 (icells it cl) rfl rfl Nat.one_pos ?c1 HO12.out ?c3 ?c4 HBB.out ?_))
                      case c1 =>
                        have h := new_cells (w7.setRow bx (itRow it cl)) (icells it cl) 33
                        rw [show (w7.setRow bx (itRow it cl)).heap.size = w7.heap.size from by simp] at h
                        exact h
                      case c3 => have := HLB.out; unfold maxLen; omega
                      case c4 => have := HLB.out; omega
                      intro out' w8 hown hgr hrow
                      have HA3 := Lib.hid (Acc.app (w := wr) (w1 := w7.setRow bx (itRow it cl)) it_el a1 a3 HOL.out HT.out.size (x := it) (cs := icells it cl) ⟨cl, rfl, HV7.out.mono (fun q _ hq => Nat.le_trans HSZ6.out.1 hq)⟩ rfl hown hgr (by simpa using hrow))
                      have HT8 : Hid (Turns g W w8) := Lib.hid (turns_grown (HT.out.trans HT7.out) hgr (fun q hq => (HA2.out.lt q hq).1))
                      have HR8 : Hid (Rdr w8 g r6) := Lib.hid ((hgr.block g (by have := HR7.out.lt; simp at this ⊢; omega) (fun e => by have := (HA2.out.lt g e.symm).1; have := HGA.out.2.2; omega)).trans (HR7.out.alloc _))
                      obtain ⟨A', c', rfl⟩ := HA3.out.slice
                      clear hown hgr hrow a1 a3 x0 x1 x2 x3 x4 x5 x6 x7 x8 x9 x10 x11
                      go_wp2_with fail
                      exact ⟨⟨ls ++ [it], r6, HM2, HR8, HT8, HA3, HLE2⟩, by rw [rlen_of HR8.out, rlen_of HR.out]; exact HME.out⟩
        · have E1 := Lib.hid (show itemsP s = none by rw [HM.out, it_bad hn h0 h1]; rfl)
          have q0 : ((n : Int) == 0) = false := by simp; omega
          have q1 : ((n : Int) == 1) = false := by simp; omega
          have HT3 := Lib.hid (HTW.out.trans (HT.out.trans HT2.out))
          clear hg ht hn hr h0 h1
          go_wp2_with fail
          exact ⟨rfl, by rw [E1.out]; exact ⟨rfl, HT3.out⟩⟩
end Go.Proofs.Ytpnmhldaaaemeaa.Snp
/- Chapter 24: what Decode defers. -/
namespace Go.Proofs.Ytpnmhldaaaemeaa.Snp
open Go.RowKit Go.Proofs.Ytpnmhldaaaemeaa.Pin
theorem is_none (w : World) : (Instr.typeAssert noneV 20 69 true).run Try.prog w = .ok (.tuple #[.agg #[], .bool true]) w := by kernel_rfl
set_option maxRecDepth 100000 in
set_option maxHeartbeats 1000000 in
theorem defer_back (p q : Addr) (w : World) :
    CallsD Try.prog 26 #[.pointer (some p), .pointer (some q)] .returning w fun e u' w' => e = .returned (.tuple #[]) ∧ u' = .returning ∧ w' = w := by
  refine callsD_of_wpS Try.func26 rfl fun c₀ cs hu => ?_
  apply wpS_seq
  apply wpS_region
  simp [wpOpsS, go_sem, recoverD, hu, Try.ntmps26, Exit.thenS]
  refine wpS_of_wp ?_
  change Code.wp _ _ _ (⟨#[.pointer (some p), .pointer (some q), Value.nilIface, undef, undef, Value.nilIface, undef, undef, undef, undef, undef, undef, undef, undef, undef, undef], []⟩ : Act) w
  go_wp2_with fail
  cases c₀
  simp_all [bodyPostS, results, Try.results26]
/-- Decode's two results -/
def Res (w : World) (c : Nat) (x y : Value) : Prop := w.heap[c]? = some (.cells #[x] 36 (0, 0)) ∧ w.heap[c + 1]? = some (.cells #[y] 37 (0, 0))
theorem Res.lt {w : World} {c : Nat} {x y : Value} (h : Res w c x y) : c + 1 < w.heap.size := (Array.getElem?_eq_some_iff.1 h.2).1
theorem Res.alloc {w : World} {c : Nat} {x y : Value} (h : Res w c x y) (o : Obj) : Res (w.alloc o) c x y := ⟨(heap_alloc_old w o (by have := h.lt; omega)).trans h.1, (heap_alloc_old w o h.lt).trans h.2⟩
theorem Res.set1 {w : World} {c : Nat} {x y : Value} (h : Res w c x y) (x' : Value) : w.cell? ⟨c, 0, none⟩ = some x ∧ w.frozen? ⟨c, 0, none⟩ = false ∧ w.setCell ⟨c, 0, none⟩ x' = w.setRow c #[x'] ∧ Res (w.setRow c #[x']) c x' y := by
  refine ⟨by rw [Lib.cell_of_heap h.1]; rfl, by simp [World.frozen?, h.1], by rw [setCell_eq_setRow w c 0 _ _ (0, 0) _ h.1]; rfl, setRow_heap w c _ _ _ _ h.1, (setRow_other w c (c + 1) _ (by omega)).trans h.2⟩
theorem Res.set2 {w : World} {c : Nat} {x y : Value} (h : Res w c x y) (y' : Value) : w.cell? ⟨c + 1, 0, none⟩ = some y ∧ w.frozen? ⟨c + 1, 0, none⟩ = false ∧ w.setCell ⟨c + 1, 0, none⟩ y' = w.setRow (c + 1) #[y'] ∧ Res (w.setRow (c + 1) #[y']) c x y' := by
  refine ⟨by rw [Lib.cell_of_heap h.2]; rfl, by simp [World.frozen?, h.2], by rw [setCell_eq_setRow w (c + 1) 0 _ _ (0, 0) _ h.2]; rfl, (setRow_other w (c + 1) c _ (by omega)).trans h.1, setRow_heap w (c + 1) _ _ _ _ h.2⟩
theorem below_row {B b : Nat} {w w' : World} (h : Below B w w') (hb : B ≤ b) (cs : Array Value) : Below B w (w'.setRow b cs) :=
  ⟨h.os, h.tape, h.output, by simpa using h.size, fun k hk => (setRow_other w' b k cs (by omega)).trans (h.block k hk)⟩
set_option maxRecDepth 100000 in
set_option maxHeartbeats 1000000 in
theorem defer_catch (c : Nat) (x y : Value) (older : List PanicEntry) (w : World) (h : Res w c x y) :
    CallsD Try.prog 26 #[.pointer (some ⟨c, 0, none⟩), .pointer (some ⟨c + 1, 0, none⟩)] (.panicking ({ v := noneV, recovered := false } :: older)) w fun e u' w' =>
      e = .returned (.tuple #[]) ∧ u' = .panicking ({ v := noneV, recovered := true } :: older) ∧ Res w' c (.slice none 0 0) (.int .i64 4) ∧ ∀ B, B ≤ c → Below B w w' := by
  have h1 := h.alloc (.cells #[] 69)
  obtain ⟨a1, a2, a3, h2⟩ := h1.set1 (.slice none 0 0)
  obtain ⟨b1, b2, b3, h3⟩ := h2.set2 (.int .i64 4)
  have H3 := Lib.hid h3
  have HL := Lib.hid h.lt
  clear h h1 h2 h3
  have hta := is_none
  refine callsD_of_wpS Try.func26 rfl fun c₀ cs hu => ?_
  apply wpS_seq
  apply wpS_region
  simp [wpOpsS, go_sem, recoverD, hu, Try.ntmps26, Exit.thenS]
  refine wpS_of_wp ?_
  change Code.wp _ _ _ (⟨#[.pointer (some ⟨c, 0, none⟩), .pointer (some ⟨c + 1, 0, none⟩), noneV, undef, undef, noneV, undef, undef, undef, undef, undef, undef, undef, undef, undef, undef], []⟩ : Act) w
  go_wp2_with fail
  refine ⟨rfl, _, rfl, _, results_none rfl _ _ _, rfl, rfl, H3.out, fun B hB => ?_⟩
  exact below_row (below_row ((Below.refl B w).alloc (by have := HL.out; omega) _) hB _) (by omega) _
end Go.Proofs.Ytpnmhldaaaemeaa.Snp
/- Chapter 24: what is read, plainly; and lists of memory of its own as any lists. -/
namespace Go.Proofs.Ytpnmhldaaaemeaa.Snp
open Go.RowKit Go.Proofs.Ytpnmhldaaaemeaa.Pin
section
variable {w : World} {ok : Nat → Prop} {v : Value}
theorem texts_at {l : List ByteArray} (h : On_texts w ok v l) : TextsAt w w.heap.size v l := by
  obtain ⟨A, c, e, h⟩ := h
  refine ⟨A, c, e, fun h0 => ?_⟩
  obtain ⟨r, e1, _, h2, h3⟩ := h h0
  refine ⟨r, 0, e1, h2, fun j hj => ?_⟩
  obtain ⟨cs, _, k2, k3⟩ := h3 j hj
  have k2' : cs = [Value.string l[j]] := k2
  have := k3 0 (.string l[j]) (by rw [k2']; rfl)
  simpa using this
theorem pairs_at {l : List Pr} (h : On_pairs w ok v l) : PairsAt w w.heap.size v l := by
  obtain ⟨A, c, e, h⟩ := h
  refine ⟨A, c, e, fun h0 => ?_⟩
  obtain ⟨r, e1, _, h2, h3⟩ := h h0
  refine ⟨r, 0, e1, h2, fun j hj => ?_⟩
  obtain ⟨cs, _, k2, k3⟩ := h3 j hj
  have k2' : cs = [Value.string l[j].1, .string l[j].2] := k2
  have a := k3 0 (.string l[j].1) (by rw [k2']; rfl)
  have b := k3 1 (.string l[j].2) (by rw [k2']; rfl)
  exact ⟨by simpa using a, by simpa using b⟩
theorem scoreds_at {l : List Sc} (h : On_scoreds w ok v l) : ScoredsAt w w.heap.size v l := by
  obtain ⟨A, c, e, h⟩ := h
  refine ⟨A, c, e, fun h0 => ?_⟩
  obtain ⟨r, e1, _, h2, h3⟩ := h h0
  refine ⟨r, 0, e1, h2, fun j hj => ?_⟩
  obtain ⟨cs, _, k2, k3⟩ := h3 j hj
  have k2' : cs = [Value.string l[j].1, .float .f64 l[j].2] := k2
  have a := k3 0 (.string l[j].1) (by rw [k2']; rfl)
  have b := k3 1 (.float .f64 l[j].2) (by rw [k2']; rfl)
  exact ⟨by simpa using a, by simpa using b⟩
theorem entries_at {l : List En} (h : On_entries w ok v l) : EntriesAt w w.heap.size v l := by
  obtain ⟨A, c, e, h⟩ := h
  refine ⟨A, c, e, fun h0 => ?_⟩
  obtain ⟨r, e1, _, h2, h3⟩ := h h0
  refine ⟨r, 0, e1, h2, fun j hj => ?_⟩
  obtain ⟨cs, _, ⟨pv, k2, k4⟩, k3⟩ := h3 j hj
  have a := k3 0 (.int .u64 (l[j].ms : Int)) (by rw [k2]; rfl)
  have b := k3 1 (.int .u64 (l[j].seq : Int)) (by rw [k2]; rfl)
  have c := k3 2 pv (by rw [k2]; rfl)
  exact ⟨by simpa using a, by simpa using b, pv, by simpa using c, pairs_at k4⟩
theorem val_at {c : Cl} {x : Va} (h : VOn w ok c x) : ValAt w w.heap.size c x := ⟨texts_at h.list, pairs_at h.hash, texts_at h.set, scoreds_at h.zset, entries_at h.stream⟩
theorem items_at {l : List It} (h : ItemsOn w ok v l) : ItemsAt w w.heap.size v l := by
  obtain ⟨A, c, e, h⟩ := h
  refine ⟨A, c, e, fun h0 => ?_⟩
  obtain ⟨r, e1, _, h2, h3⟩ := h h0
  refine ⟨r, 0, e1, h2, fun j hj => ?_⟩
  obtain ⟨cs, _, ⟨cl, k2, k4⟩, k3⟩ := h3 j hj
  refine ⟨cl, fun i u hu => ?_, val_at k4⟩
  rw [Nat.zero_add]
  exact k3 i u (by rw [k2]; exact hu)
end
theorem va_b {v : Va} (h : VaOk v) : VaB v ∧ IdsB v := by
  obtain ⟨k, t, li, ha, se, zs, st, ms, sq⟩ := v
  rcases h with ⟨h1, h2, h3⟩ | ⟨h1, h2, h3, h4⟩ | ⟨h1, h2, h3, h4⟩ | ⟨h1, h2, h3, h4⟩ | ⟨h1, h2, h3, h4⟩ | ⟨h1, h2, h3, h4, h5⟩
  all_goals
    simp only [va0, Va.mk.injEq] at h1 h2
    obtain ⟨-, q1, q2, q3, q4, q5, q6, q7, q8⟩ := h2
    try subst q2
    try subst q3
    try subst q4
    try subst q5
    try subst q6
    try subst q1
    simp only [IdOk, TextOk] at h3
    refine ⟨⟨by show k < 256; omega, ?_, ?_, ?_, ?_, ?_, ?_, ?_, ?_, ?_⟩, ?_⟩
  all_goals try simp only [List.length_nil]
  all_goals try simp only at h4
  all_goals first
    | omega
    | decide
    | (intro x hx; exact absurd hx List.not_mem_nil)
    | (intro s hs; have := (h4 s hs).2; rwa [pow8] at this)
    | (intro e he; have := (h5 e he).2.1; omega)
    | (have := h3; rw [pow8] at this; exact this)
    | (intro e he; have := (h5 e he).1; rw [IdOk, pow8] at this; exact this)
/-- what is read of such bytes -/
noncomputable def decP (s : List UInt8) : Option (List It) :=
  if Lib.hasPrefix s magicB = true ∧ 19 ≤ s.length then
    match itemsP ((s.take (s.length - 8)).drop 10) with
    | some (l, []) => match pb (CheckP l) && decide (lowN (s.drop (s.length - 8)) = sumB (s.take (s.length - 8))) with
      | true => some l
      | false => none
    | _ => none
  else none
theorem magic_len : magicB.length = 10 := rfl
theorem decP_some {s : List UInt8} {l : List It} (h : decP s = some l) : (∀ it ∈ l, ItOk it) ∧ CheckP l ∧ s = encB l := by
  unfold decP at h
  split at h
  · rename_i h0
    obtain ⟨hp, hl⟩ := h0
    split at h
    · rename_i m hm
      split at h
      · rename_i hc
        injection h with h
        subst h
        rw [Bool.and_eq_true, decide_eq_true_eq] at hc
        obtain ⟨hc1, hc2⟩ := hc
        have hck : CheckP m := Classical.byContradiction fun hn => by rw [pb_false hn] at hc1; cases hc1
        obtain ⟨h1, h2⟩ := itemsP_fwd hm
        refine ⟨h1, hck, ?_⟩
        rw [List.append_nil] at h2
        have hpre : magicB <+: s := List.isPrefixOf_iff_prefix.1 hp
        obtain ⟨r, hr⟩ := hpre
        have ht : s.take (s.length - 8) = bodyB m := by
          rw [bodyB_itemsE hck, ← h2, ← hr]
          have h10 : (magicB ++ r).length - 8 = magicB.length + (r.length - 8) := by
            rw [← hr] at hl
            simp only [List.length_append, magic_len] at hl ⊢
            omega
          rw [h10, List.take_append, Nat.add_sub_cancel_left, List.take_of_length_le (by omega)]
          rw [show (10 : Nat) = magicB.length from rfl, List.drop_left]
        have hlen : (s.drop (s.length - 8)).length = 8 := by rw [List.length_drop]; omega
        have hd := leB_lowN (s.drop (s.length - 8))
        rw [hlen, hc2, ht] at hd
        rw [encB, hd, ← ht]
        exact (List.take_append_drop _ _).symm
      · cases h
    · cases h
  · cases h
theorem decP_enc {l : List It} (hi : ∀ it ∈ l, ItOk it) (hc : CheckP l) : decP (encB l) = some l := by
  have hb : bodyB l = magicB ++ itemsE l := bodyB_itemsE hc
  have hlen : (encB l).length = 10 + (itemsE l).length + 8 := by simp only [encB, hb, List.length_append, leB_len, magic_len]
  have hpos := itemsE_len l
  have ht : (encB l).take ((encB l).length - 8) = bodyB l := by
    rw [encB, List.length_append, leB_len, Nat.add_sub_cancel, List.take_left]
  have hd : (encB l).drop ((encB l).length - 8) = leB (sumB (bodyB l)) 8 := by
    rw [encB, List.length_append, leB_len, Nat.add_sub_cancel, List.drop_left]
  unfold decP
  have hpre : Lib.hasPrefix (encB l) magicB = true := List.isPrefixOf_iff_prefix.2 ⟨itemsE l ++ leB (sumB (bodyB l)) 8, by rw [encB, hb, List.append_assoc]⟩
  rw [if_pos ⟨hpre, by omega⟩, ht, hd]
  · have e1 : (bodyB l).drop 10 = itemsE l := by rw [hb, show (10 : Nat) = magicB.length from rfl, List.drop_left]
    have e2 := itemsP_bwd [] hi
    rw [List.append_nil] at e2
    rw [e1, e2]
    simp only
    rw [pb_true hc, lowN_leB, Nat.mod_eq_of_lt (show sumB (bodyB l) < 256 ^ 8 from Nat.lt_of_lt_of_le (Sum.crcT 0#64 (bodyB l)).isLt (by decide))]
    simp
end Go.Proofs.Ytpnmhldaaaemeaa.Snp
