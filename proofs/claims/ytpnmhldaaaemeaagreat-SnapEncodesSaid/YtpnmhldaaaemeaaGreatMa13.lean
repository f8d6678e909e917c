import Derived.Test.YtpnmhldaaaemeaaGreatMa12
import Derived.Laws.Entries
import Derived.Test.YtpnmhldaaaemeaaGreatMa6
/- Chapter 24: what a writer writes: lists. -/
namespace Go.Proofs.YtpnmhldaaaemeaaGreat.Snp
open Go.RowKit Go.Proofs.YtpnmhldaaaemeaaGreat.Pin

theorem run_store_flt (P : Program) (w : World) (a : Addr) (m : Mode) (k : FloatKind) (b : Nat) : (store a (.float k b) m).run P w = stored P w a (.float k b) m := run_store P w a _ m rfl
attribute [local go_sem] run_store_flt
def listB {α : Type} (f : α → List UInt8) (ls : List α) : List UInt8 := leB ls.length 4 ++ (ls.map f).flatten
theorem listB_len {α : Type} (f : α → List UInt8) (ls : List α) : (listB f ls).length = 4 + (ls.map f).flatten.length := by simp [listB, leB_len]
theorem flat_succ {α : Type} {f : α → List UInt8} {ls : List α} {k : Nat} (h : k < ls.length) : ((ls.take (k + 1)).map f).flatten = ((ls.take k).map f).flatten ++ f ls[k] := by
  rw [List.take_succ_eq_append_getElem h, List.map_append, List.flatten_append]
  show _ ++ (f ls[k] ++ []) = _
  rw [List.append_nil]
theorem flat_le {α : Type} {f : α → List UInt8} {ls : List α} (k : Nat) (h : k < ls.length) : ((ls.take k).map f).flatten.length + (f ls[k]).length ≤ (ls.map f).flatten.length := by
  have h1 : ((ls.take (k + 1)).map f).flatten.length + ((ls.drop (k + 1)).map f).flatten.length = (ls.map f).flatten.length := by
    rw [← List.length_append, ← List.flatten_append, ← List.map_append, List.take_append_drop]
  rw [flat_succ h, List.length_append] at h1
  omega
def enB (e : En) : List UInt8 := idB (e.ms, e.seq) ++ listB pairB e.pairs
set_option maxHeartbeats 1000000 in
set_option maxRecDepth 100000 in
theorem put_texts (ls : List ByteArray) (v : Value) (l : List UInt8) (B g : Nat) (w : World) (h : Wr w B g l) (hT : TextsAt w B v ls) (hl : ls.length ≤ 140737488351232) (hb : l.length + (listB textB ls).length ≤ 140737488355328) :
    Writes 37 #[.pointer (some ⟨g, 0, none⟩), v, .func (.func 16) #[.pointer (some ⟨g, 0, none⟩)] #[]] w B g l (listB textB ls) := by
  obtain ⟨A, c, rfl, hT⟩ := hT
  rw [listB_len] at hb
  have H := Lib.hid h
  have HN := Lib.hid (number_any ls.length 4 l B g w h (by omega) (by omega) (by omega))
  have HS := Lib.hid (flat_le (f := textB) (ls := ls))
  obtain ⟨L, hL⟩ : ∃ L, L = ls.length := ⟨_, rfl⟩
  rw [← hL] at hl HN ⊢
  have hw : IntKind.u64.wrap (L : Int) = (L : Int) := by rw [IntKind.wrap_u64]; omega
  have HL := Lib.hid hL
  have HT := Lib.hid hT
  have HB := Lib.hid hb
  clear hL hT h hb
  go_enter Tryz.func37, Tryz.ntmps37
  go_wp2_with fail
  refine HN.out.mono ?_
  rintro e w1 ⟨rfl, hw1, hp1⟩
  have HW1 := Lib.hid hw1
  have HP1 := Lib.hid hp1
  clear hw1 hp1
  go_wp2_with fail
  go_loopw [15] (fun i wr => ∃ (k : Nat), k ≤ L ∧ i = .int .i64 k ∧ Hid (Wr wr B g (l ++ (leB L 4 ++ ((ls.take k).map textB).flatten))) ∧ Hid (Puts g w wr)) (fun i _ => L - (intOf i).toNat)
  case atStart => exact ⟨0, Nat.zero_le _, rfl, Lib.hid (by simpa using HW1.out), HP1⟩
  case round =>
    obtain ⟨k, hk, rfl, HW, HPt⟩ := hrel
    by_cases hlt : (k : Int) < (L : Int)
    · have hkl : k < ls.length := by have := HL.out; omega
      obtain ⟨r, o, rfl, hr, hc⟩ := HT.out (by omega)
      obtain ⟨x, hx⟩ : ∃ x, x = ls[k] := ⟨_, rfl⟩
      have HX := Lib.hid hx
      have HBB := Lib.hid (H.out.below HPt.out)
      have hck := hc k hkl
      rw [← hx] at hck
      have hle := HS.out k hkl
      rw [← hx] at hle
      have hbk : (l ++ (leB L 4 ++ ((ls.take k).map textB).flatten)).length + (textB x).length ≤ 140737488355328 := by
        have := HB.out
        rw [List.length_append, List.length_append, leB_len]
        omega
      have hx1 : wr.cell? ⟨r, o + k, none⟩ = some (.string x) := (HBB.out.cell (p := ⟨r, _, none⟩) hr).trans hck
      have HC := Lib.hid (text_wr x _ B g wr HW.out hbk)
      clear hx hc hck hle hbk
      go_wp2_with fail
      refine HC.out.mono ?_
      rintro e w2 ⟨rfl, hw2, hp2⟩
      have HW2 := Lib.hid hw2
      have HP2 := Lib.hid (HPt.out.trans hp2)
      clear hw2 hp2
      go_wp2_with fail
      go_roundw
      case rel => exact ⟨k + 1, by omega, by go_num, Lib.hid (by rw [flat_succ hkl, ← HX.out]; simpa only [List.append_assoc] using HW2.out), HP2⟩
      case measure => simp [intOf]; omega
    · have hkL : k = ls.length := by have := HL.out; omega
      have HK := Lib.hid hkL
      clear hkL
      go_wp2_with fail
      go_end0
      have hW := HW.out
      rw [HK.out, List.take_length] at hW
      exact ⟨rfl, by rw [listB, ← HL.out]; exact hW, HPt.out⟩
set_option maxHeartbeats 1000000 in
set_option maxRecDepth 100000 in
theorem put_pairs (ls : List Pr) (v : Value) (l : List UInt8) (B g : Nat) (w : World) (h : Wr w B g l) (hT : PairsAt w B v ls) (hl : ls.length ≤ 140737488351232) (hb : l.length + (listB pairB ls).length ≤ 140737488355328) :
    Writes 45 #[.pointer (some ⟨g, 0, none⟩), v, .func (.func 46) #[.pointer (some ⟨g, 0, none⟩)] #[]] w B g l (listB pairB ls) := by
  obtain ⟨A, c, rfl, hT⟩ := hT
  rw [listB_len] at hb
  have H := Lib.hid h
  have HN := Lib.hid (number_any ls.length 4 l B g w h (by omega) (by omega) (by omega))
  have HS := Lib.hid (flat_le (f := pairB) (ls := ls))
  obtain ⟨L, hL⟩ : ∃ L, L = ls.length := ⟨_, rfl⟩
  rw [← hL] at hl HN ⊢
  have hw : IntKind.u64.wrap (L : Int) = (L : Int) := by rw [IntKind.wrap_u64]; omega
  have HL := Lib.hid hL
  have HT := Lib.hid hT
  have HB := Lib.hid hb
  clear hL hT h hb
  go_enter Tryz.func45, Tryz.ntmps45
  go_wp2_with fail
  refine HN.out.mono ?_
  rintro e w1 ⟨rfl, hw1, hp1⟩
  have HW1 := Lib.hid hw1
  have HP1 := Lib.hid hp1
  clear hw1 hp1
  go_wp2_with fail
  go_loopw [15] (fun i wr => ∃ (k : Nat), k ≤ L ∧ i = .int .i64 k ∧ Hid (Wr wr B g (l ++ (leB L 4 ++ ((ls.take k).map pairB).flatten))) ∧ Hid (Puts g w wr)) (fun i _ => L - (intOf i).toNat)
  case atStart => exact ⟨0, Nat.zero_le _, rfl, Lib.hid (by simpa using HW1.out), HP1⟩
  case round =>
    obtain ⟨k, hk, rfl, HW, HPt⟩ := hrel
    by_cases hlt : (k : Int) < (L : Int)
    · have hkl : k < ls.length := by have := HL.out; omega
      obtain ⟨r, o, rfl, hr, hc⟩ := HT.out (by omega)
      obtain ⟨x, hx⟩ : ∃ x, x = ls[k] := ⟨_, rfl⟩
      have HX := Lib.hid hx
      have HBB := Lib.hid (H.out.below HPt.out)
      have hck := hc k hkl
      rw [← hx] at hck
      have hle := HS.out k hkl
      rw [← hx] at hle
      have hbk : (l ++ (leB L 4 ++ ((ls.take k).map pairB).flatten)).length + (pairB x).length ≤ 140737488355328 := by
        have := HB.out
        rw [List.length_append, List.length_append, leB_len]
        omega
      have hx1 : wr.cell? ⟨r, o + k * 2, none⟩ = some (.string x.1) := (HBB.out.cell (p := ⟨r, _, none⟩) hr).trans hck.1
      have hx2 : wr.cell? ⟨r, o + k * 2 + 1, none⟩ = some (.string x.2) := (HBB.out.cell (p := ⟨r, _, none⟩) hr).trans hck.2
      have HC := Lib.hid (pair_wr x _ B g (wr.alloc (.cells #[.string x.1, .string x.2] 78)) (HW.out.alloc _) hbk)
      have HG := Lib.hid HW.out.lt
      clear hx hc hle hbk hck
      go_wp2_with fail
      refine HC.out.mono ?_
      rintro e w2 ⟨rfl, hw2, hp2⟩
      have HW2 := Lib.hid hw2
      have HP2 := Lib.hid (HPt.out.trans ((Puts.alloc g wr _ HG.out).trans hp2))
      clear hw2 hp2
      go_wp2_with fail
      go_roundw
      case rel => exact ⟨k + 1, by omega, by go_num, Lib.hid (by rw [flat_succ hkl, ← HX.out]; simpa only [List.append_assoc] using HW2.out), HP2⟩
      case measure => simp [intOf]; omega
    · have hkL : k = ls.length := by have := HL.out; omega
      have HK := Lib.hid hkL
      clear hkL
      go_wp2_with fail
      go_end0
      have hW := HW.out
      rw [HK.out, List.take_length] at hW
      exact ⟨rfl, by rw [listB, ← HL.out]; exact hW, HPt.out⟩
set_option maxHeartbeats 1000000 in
set_option maxRecDepth 100000 in
theorem put_scoreds (ls : List Sc) (v : Value) (l : List UInt8) (B g : Nat) (w : World) (h : Wr w B g l) (hT : ScoredsAt w B v ls) (hl : ls.length ≤ 140737488351232) (hp : ∀ x ∈ ls, x.2 < 18446744073709551616) (hb : l.length + (listB scB ls).length ≤ 140737488355328) :
    Writes 56 #[.pointer (some ⟨g, 0, none⟩), v, .func (.func 57) #[.pointer (some ⟨g, 0, none⟩)] #[]] w B g l (listB scB ls) := by
  obtain ⟨A, c, rfl, hT⟩ := hT
  rw [listB_len] at hb
  have H := Lib.hid h
  have HN := Lib.hid (number_any ls.length 4 l B g w h (by omega) (by omega) (by omega))
  have HS := Lib.hid (flat_le (f := scB) (ls := ls))
  obtain ⟨L, hL⟩ : ∃ L, L = ls.length := ⟨_, rfl⟩
  rw [← hL] at hl HN ⊢
  have hw : IntKind.u64.wrap (L : Int) = (L : Int) := by rw [IntKind.wrap_u64]; omega
  have HL := Lib.hid hL
  have HT := Lib.hid hT
  have HB := Lib.hid hb
  have HP := Lib.hid hp
  clear hL hT h hb hp
  go_enter Tryz.func56, Tryz.ntmps56
  go_wp2_with fail
  refine HN.out.mono ?_
  rintro e w1 ⟨rfl, hw1, hp1⟩
  have HW1 := Lib.hid hw1
  have HP1 := Lib.hid hp1
  clear hw1 hp1
  go_wp2_with fail
  go_loopw [15] (fun i wr => ∃ (k : Nat), k ≤ L ∧ i = .int .i64 k ∧ Hid (Wr wr B g (l ++ (leB L 4 ++ ((ls.take k).map scB).flatten))) ∧ Hid (Puts g w wr)) (fun i _ => L - (intOf i).toNat)
  case atStart => exact ⟨0, Nat.zero_le _, rfl, Lib.hid (by simpa using HW1.out), HP1⟩
  case round =>
    obtain ⟨k, hk, rfl, HW, HPt⟩ := hrel
    by_cases hlt : (k : Int) < (L : Int)
    · have hkl : k < ls.length := by have := HL.out; omega
      obtain ⟨r, o, rfl, hr, hc⟩ := HT.out (by omega)
      obtain ⟨x, hx⟩ : ∃ x, x = ls[k] := ⟨_, rfl⟩
      have HX := Lib.hid hx
      have HBB := Lib.hid (H.out.below HPt.out)
      have hck := hc k hkl
      rw [← hx] at hck
      have hle := HS.out k hkl
      rw [← hx] at hle
      have hbk : (l ++ (leB L 4 ++ ((ls.take k).map scB).flatten)).length + (scB x).length ≤ 140737488355328 := by
        have := HB.out
        rw [List.length_append, List.length_append, leB_len]
        omega
      have hx1 : wr.cell? ⟨r, o + k * 2, none⟩ = some (.string x.1) := (HBB.out.cell (p := ⟨r, _, none⟩) hr).trans hck.1
      have hx2 : wr.cell? ⟨r, o + k * 2 + 1, none⟩ = some (.float .f64 x.2) := (HBB.out.cell (p := ⟨r, _, none⟩) hr).trans hck.2
      have HC := Lib.hid (scored_wr x _ B g (wr.alloc (.cells #[.string x.1, .float .f64 x.2] 88)) (HW.out.alloc _) (by rw [hx]; exact HP.out _ (List.getElem_mem hkl)) hbk)
      have HG := Lib.hid HW.out.lt
      clear hx hc hle hbk hck
      go_wp2_with fail
      refine HC.out.mono ?_
      rintro e w2 ⟨rfl, hw2, hp2⟩
      have HW2 := Lib.hid hw2
      have HP2 := Lib.hid (HPt.out.trans ((Puts.alloc g wr _ HG.out).trans hp2))
      clear hw2 hp2
      go_wp2_with fail
      go_roundw
      case rel => exact ⟨k + 1, by omega, by go_num, Lib.hid (by rw [flat_succ hkl, ← HX.out]; simpa only [List.append_assoc] using HW2.out), HP2⟩
      case measure => simp [intOf]; omega
    · have hkL : k = ls.length := by have := HL.out; omega
      have HK := Lib.hid hkL
      clear hkL
      go_wp2_with fail
      go_end0
      have hW := HW.out
      rw [HK.out, List.take_length] at hW
      exact ⟨rfl, by rw [listB, ← HL.out]; exact hW, HPt.out⟩
set_option maxHeartbeats 1000000 in
set_option maxRecDepth 100000 in
theorem entry_wr (x : En) (pv : Value) (l : List UInt8) (B g : Nat) (w : World) (h : Wr w B g l) (hp : PairsAt w B pv x.pairs) (hx : x.ms < 18446744073709551616 ∧ x.seq < 18446744073709551616 ∧ x.pairs.length ≤ 140737488351232) (hb : l.length + (enB x).length ≤ 140737488355328) :
    Writes 65 #[.pointer (some ⟨g, 0, none⟩), .agg #[.int .u64 (x.ms : Int), .int .u64 (x.seq : Int), pv]] w B g l (enB x) := by
  have hb' : l.length + (16 + (listB pairB x.pairs).length) ≤ 140737488355328 := by simp only [enB, idB, leB_len, List.length_append] at hb; omega
  obtain ⟨A, c, rfl, _⟩ := id hp
  have H := Lib.hid h
  have H1 := Lib.hid (id_wr (x.ms, x.seq) l B g (w.alloc (.cells #[.int .u64 (x.ms : Int), .int .u64 (x.seq : Int), .slice A x.pairs.length c] 95)) (h.alloc _) ⟨hx.1, hx.2.1⟩ (by omega))
  have H2 := Lib.hid (fun w' hw h' => put_pairs x.pairs (.slice A x.pairs.length c) (l ++ idB (x.ms, x.seq)) B g w' h' (hp.below hw) hx.2.2 (by rw [List.length_append]; simp only [idB, List.length_append, leB_len]; omega))
  have HL := Lib.hid h.lt
  clear h hb hb' hx hp
  go_enter Tryz.func65, Tryz.ntmps65
  go_wp2_with fail
  refine H1.out.mono ?_
  rintro e w1 ⟨rfl, hw1, hp1⟩
  have hk := Puts.keep H.out hp1
  have hc1 : w1.cell? ⟨w.heap.size, 2, none⟩ = some (.slice A x.pairs.length c) := by rw [Lib.cell_of_heap hk]; rfl
  have HP1 : Hid (Puts g w w1) := Lib.hid ((Puts.alloc g w _ HL.out).trans hp1)
  have HW1 := Lib.hid hw1
  clear hk hw1 hp1
  go_wp2_with fail
  refine (H2.out w1 (H.out.below HP1.out) HW1.out).mono ?_
  rintro e w2 ⟨rfl, hw2, hp2⟩
  have HW2 := Lib.hid hw2
  have HP2 : Hid (Puts g w w2) := Lib.hid (HP1.out.trans hp2)
  clear hw2 hp2
  go_wp2_with fail
  go_end0
  exact ⟨rfl, by rw [enB, ← List.append_assoc]; exact HW2.out, HP2.out⟩
set_option maxHeartbeats 1000000 in
set_option maxRecDepth 100000 in
theorem put_entries (ls : List En) (v : Value) (l : List UInt8) (B g : Nat) (w : World) (h : Wr w B g l) (hT : EntriesAt w B v ls) (hl : ls.length ≤ 140737488351232) (hp : ∀ x ∈ ls, x.ms < 18446744073709551616 ∧ x.seq < 18446744073709551616 ∧ x.pairs.length ≤ 140737488351232) (hb : l.length + (listB enB ls).length ≤ 140737488355328) :
    Writes 64 #[.pointer (some ⟨g, 0, none⟩), v, .func (.func 65) #[.pointer (some ⟨g, 0, none⟩)] #[]] w B g l (listB enB ls) := by
  obtain ⟨A, c, rfl, hT⟩ := hT
  rw [listB_len] at hb
  have H := Lib.hid h
  have HN := Lib.hid (number_any ls.length 4 l B g w h (by omega) (by omega) (by omega))
  have HS := Lib.hid (flat_le (f := enB) (ls := ls))
  obtain ⟨L, hL⟩ : ∃ L, L = ls.length := ⟨_, rfl⟩
  rw [← hL] at hl HN ⊢
  have hw : IntKind.u64.wrap (L : Int) = (L : Int) := by rw [IntKind.wrap_u64]; omega
  have HL := Lib.hid hL
  have HT := Lib.hid hT
  have HB := Lib.hid hb
  have HP := Lib.hid hp
  clear hL hT h hb hp
  go_enter Tryz.func64, Tryz.ntmps64
  go_wp2_with fail
  refine HN.out.mono ?_
  rintro e w1 ⟨rfl, hw1, hp1⟩
  have HW1 := Lib.hid hw1
  have HP1 := Lib.hid hp1
  clear hw1 hp1
  go_wp2_with fail
  go_loopw [15] (fun i wr => ∃ (k : Nat), k ≤ L ∧ i = .int .i64 k ∧ Hid (Wr wr B g (l ++ (leB L 4 ++ ((ls.take k).map enB).flatten))) ∧ Hid (Puts g w wr)) (fun i _ => L - (intOf i).toNat)
  case atStart => exact ⟨0, Nat.zero_le _, rfl, Lib.hid (by simpa using HW1.out), HP1⟩
  case round =>
    obtain ⟨k, hk, rfl, HW, HPt⟩ := hrel
    by_cases hlt : (k : Int) < (L : Int)
    · have hkl : k < ls.length := by have := HL.out; omega
      obtain ⟨r, o, rfl, hr, hc⟩ := HT.out (by omega)
      obtain ⟨x, hx⟩ : ∃ x, x = ls[k] := ⟨_, rfl⟩
      have HX := Lib.hid hx
      have HBB := Lib.hid (H.out.below HPt.out)
      have hck := hc k hkl
      rw [← hx] at hck
      have hle := HS.out k hkl
      rw [← hx] at hle
      have hbk : (l ++ (leB L 4 ++ ((ls.take k).map enB).flatten)).length + (enB x).length ≤ 140737488355328 := by
        have := HB.out
        rw [List.length_append, List.length_append, leB_len]
        omega
      obtain ⟨hk1, hk2, pv, hk3, hk4⟩ := hck
      have hpp : PairsAt wr B pv x.pairs := hk4.below HBB.out
      have hx1 : wr.cell? ⟨r, o + k * 3, none⟩ = some (.int .u64 (x.ms : Int)) := (HBB.out.cell (p := ⟨r, _, none⟩) hr).trans hk1
      have hx2 : wr.cell? ⟨r, o + k * 3 + 1, none⟩ = some (.int .u64 (x.seq : Int)) := (HBB.out.cell (p := ⟨r, _, none⟩) hr).trans hk2
      have hx3 : wr.cell? ⟨r, o + k * 3 + 2, none⟩ = some pv := (HBB.out.cell (p := ⟨r, _, none⟩) hr).trans hk3
      have hpv := HP.out _ (List.getElem_mem hkl)
      rw [← hx] at hpv
      obtain ⟨Ap, cp, rfl, _⟩ := id hpp
      have HC := Lib.hid (entry_wr x _ _ B g (wr.alloc (.cells #[.int .u64 (x.ms : Int), .int .u64 (x.seq : Int), .slice Ap x.pairs.length cp] 95)) (HW.out.alloc _) (hpp.below ((Below.refl B wr).alloc (by have := HW.out.lt; have := HW.out.ge; omega) _)) hpv hbk)
      clear hpv hpp hk1 hk2 hk3 hk4
      have HG := Lib.hid HW.out.lt
      clear hx hc hle hbk
      go_wp2_with fail
      refine HC.out.mono ?_
      rintro e w2 ⟨rfl, hw2, hp2⟩
      have HW2 := Lib.hid hw2
      have HP2 := Lib.hid (HPt.out.trans ((Puts.alloc g wr _ HG.out).trans hp2))
      clear hw2 hp2
      go_wp2_with fail
      go_roundw
      case rel => exact ⟨k + 1, by omega, by go_num, Lib.hid (by rw [flat_succ hkl, ← HX.out]; simpa only [List.append_assoc] using HW2.out), HP2⟩
      case measure => simp [intOf]; omega
    · have hkL : k = ls.length := by have := HL.out; omega
      have HK := Lib.hid hkL
      clear hkL
      go_wp2_with fail
      go_end0
      have hW := HW.out
      rw [HK.out, List.take_length] at hW
      exact ⟨rfl, by rw [listB, ← HL.out]; exact hW, HPt.out⟩
end Go.Proofs.YtpnmhldaaaemeaaGreat.Snp
/- Chapter 24: the document's bytes: lists. Printed by gen_refe24.py. -/
namespace Go.Proofs.YtpnmhldaaaemeaaGreat.Snp
open Go.RowKit Go.Proofs.YtpnmhldaaaemeaaGreat.Pin
set_option maxHeartbeats 1000000 in
set_option maxRecDepth 100000 in
theorem ref_list (ls : List ByteArray) (u v : Value) (l : List UInt8) (B : Nat) (w : World) (h : Row w B v l) (hB : B ≤ w.heap.size) (hT : TextsAt w B u ls) (hl : ls.length ≤ 140737488351232) (hb : l.length + (listB textB ls).length ≤ 140737488355328) :
    Adds 100 #[v, u] w B v l (listB textB ls) := by
  obtain ⟨A, c, rfl, hT⟩ := hT
  rw [listB_len] at hb
  have H := Lib.hid h
  have HN := Lib.hid (ref_low ls.length 4 v l B w h hB (by omega) (by omega) (by omega))
  have HS := Lib.hid (flat_le (f := textB) (ls := ls))
  obtain ⟨L, hL⟩ : ∃ L, L = ls.length := ⟨_, rfl⟩
  rw [← hL] at hl HN ⊢
  have hw : IntKind.u64.wrap (L : Int) = (L : Int) := by rw [IntKind.wrap_u64]; omega
  have HL := Lib.hid hL
  have HT := Lib.hid hT
  have HB := Lib.hid hb
  have HBB0 := Lib.hid hB
  unfold Adds
  clear hL hT h hb hB
  go_enter Tryz.func100, Tryz.ntmps100
  go_wp2_with fail
  refine HN.out.mono ?_
  rintro e w1 ⟨v1, rfl, hr1, ha1⟩
  have HR1 := Lib.hid hr1
  have HA1 := Lib.hid ha1
  clear hr1 ha1
  go_wp2_with fail
  go_loopw [0, 5] (fun b i wr => ∃ (k : Nat), k ≤ L ∧ i = .int .i64 k ∧ Hid (Row wr B b (l ++ (leB L 4 ++ ((ls.take k).map textB).flatten))) ∧ Hid (Ap w v wr b)) (fun _ i _ => L - (intOf i).toNat)
  case atStart => exact ⟨0, Nat.zero_le _, rfl, Lib.hid (by simpa using HR1.out), HA1⟩
  case round =>
    obtain ⟨k, hk, rfl, HR, HA⟩ := hrel
    by_cases hlt : (k : Int) < (L : Int)
    · have hkl : k < ls.length := by have := HL.out; omega
      obtain ⟨r, o, rfl, hr, hc⟩ := HT.out (by omega)
      obtain ⟨x, hx⟩ : ∃ x, x = ls[k] := ⟨_, rfl⟩
      have HX := Lib.hid hx
      have HBB := Lib.hid (H.out.below HA.out)
      have HBS : Hid (B ≤ wr.heap.size) := Lib.hid (Nat.le_trans HBB0.out HA.out.size)
      have hck := hc k hkl
      rw [← hx] at hck
      have hle := HS.out k hkl
      rw [← hx] at hle
      have hbk : (l ++ (leB L 4 ++ ((ls.take k).map textB).flatten)).length + (textB x).length ≤ 140737488355328 := by
        have := HB.out
        rw [List.length_append, List.length_append, leB_len]
        omega
      have hx1 : wr.cell? ⟨r, o + k, none⟩ = some (.string x) := (HBB.out.cell (p := ⟨r, _, none⟩) hr).trans hck
      have HC := Lib.hid (ref_text x _ _ B wr HR.out HBS.out hbk)
      clear hx hc hck hle hbk
      go_wp2_with fail
      refine HC.out.mono ?_
      rintro e w2 ⟨v2, rfl, hr2, ha2⟩
      have HR2 := Lib.hid hr2
      have HA2 := Lib.hid (HA.out.trans ha2)
      clear hr2 ha2
      go_wp2_with fail
      go_roundw
      case rel => exact ⟨k + 1, by omega, by go_num, Lib.hid (by rw [flat_succ hkl, ← HX.out]; simpa only [List.append_assoc] using HR2.out), HA2⟩
      case measure => simp [intOf]; omega
    · have hkL : k = ls.length := by have := HL.out; omega
      have HK := Lib.hid hkL
      clear hkL
      go_wp2_with fail
      go_ret
      have hR := HR.out
      rw [HK.out, List.take_length] at hR
      exact ⟨_, rfl, by rw [listB, ← HL.out]; exact hR, HA.out⟩
set_option maxHeartbeats 1000000 in
set_option maxRecDepth 100000 in
theorem ref_couples (ls : List Pr) (u v : Value) (l : List UInt8) (B : Nat) (w : World) (h : Row w B v l) (hB : B ≤ w.heap.size) (hT : PairsAt w B u ls) (hl : ls.length ≤ 140737488351232) (hb : l.length + (listB pairB ls).length ≤ 140737488355328) :
    Adds 101 #[v, u] w B v l (listB pairB ls) := by
  obtain ⟨A, c, rfl, hT⟩ := hT
  rw [listB_len] at hb
  have H := Lib.hid h
  have HN := Lib.hid (ref_low ls.length 4 v l B w h hB (by omega) (by omega) (by omega))
  have HS := Lib.hid (flat_le (f := pairB) (ls := ls))
  obtain ⟨L, hL⟩ : ∃ L, L = ls.length := ⟨_, rfl⟩
  rw [← hL] at hl HN ⊢
  have hw : IntKind.u64.wrap (L : Int) = (L : Int) := by rw [IntKind.wrap_u64]; omega
  have HL := Lib.hid hL
  have HT := Lib.hid hT
  have HB := Lib.hid hb
  have HBB0 := Lib.hid hB
  unfold Adds
  clear hL hT h hb hB
  go_enter Tryz.func101, Tryz.ntmps101
  go_wp2_with fail
  refine HN.out.mono ?_
  rintro e w1 ⟨v1, rfl, hr1, ha1⟩
  have HR1 := Lib.hid hr1
  have HA1 := Lib.hid ha1
  clear hr1 ha1
  go_wp2_with fail
  go_loopw [0, 5] (fun b i wr => ∃ (k : Nat), k ≤ L ∧ i = .int .i64 k ∧ Hid (Row wr B b (l ++ (leB L 4 ++ ((ls.take k).map pairB).flatten))) ∧ Hid (Ap w v wr b)) (fun _ i _ => L - (intOf i).toNat)
  case atStart => exact ⟨0, Nat.zero_le _, rfl, Lib.hid (by simpa using HR1.out), HA1⟩
  case round =>
    obtain ⟨k, hk, rfl, HR, HA⟩ := hrel
    by_cases hlt : (k : Int) < (L : Int)
    · have hkl : k < ls.length := by have := HL.out; omega
      obtain ⟨r, o, rfl, hr, hc⟩ := HT.out (by omega)
      obtain ⟨x, hx⟩ : ∃ x, x = ls[k] := ⟨_, rfl⟩
      have HX := Lib.hid hx
      have HBB := Lib.hid (H.out.below HA.out)
      have HBS : Hid (B ≤ wr.heap.size) := Lib.hid (Nat.le_trans HBB0.out HA.out.size)
      have hck := hc k hkl
      rw [← hx] at hck
      have hle := HS.out k hkl
      rw [← hx] at hle
      have hbk : (l ++ (leB L 4 ++ ((ls.take k).map pairB).flatten)).length + (pairB x).length ≤ 140737488355328 := by
        have := HB.out
        rw [List.length_append, List.length_append, leB_len]
        omega
      have hx1 : wr.cell? ⟨r, o + k * 2, none⟩ = some (.string x.1) := (HBB.out.cell (p := ⟨r, _, none⟩) hr).trans hck.1
      have HX2 : Hid (∀ W, Below B wr W → W.cell? ⟨r, o + k * 2 + 1, none⟩ = some (.string x.2)) := Lib.hid (fun W hW => (hW.cell (p := ⟨r, _, none⟩) hr).trans ((HBB.out.cell (p := ⟨r, _, none⟩) hr).trans hck.2))
      have HLX : Hid ((l ++ (leB L 4 ++ ((ls.take k).map pairB).flatten)).length + ((textB x.1).length + (textB x.2).length) ≤ 140737488355328) := Lib.hid (by simp only [pairB, List.length_append] at hbk ⊢; omega)
      have HC := Lib.hid (ref_text x.1 _ _ B wr HR.out HBS.out (by have := HLX.out; omega))
      clear hx hc hck hle hbk
      go_wp2_with fail
      refine HC.out.mono ?_
      rintro e w3 ⟨v3, rfl, hr3, ha3⟩
      have hx2 := HX2.out w3 (HR.out.below ha3)
      have HR3 := Lib.hid hr3
      have HA3 := Lib.hid (HA.out.trans ha3)
      have HD := Lib.hid (ref_text x.2 _ _ B w3 hr3 (by have := HBS.out; have := ha3.size; omega) (by have := HLX.out; rw [List.length_append (bs := textB x.1)]; omega))
      clear hr3 ha3
      go_wp2_with fail
      refine HD.out.mono ?_
      rintro e w2 ⟨v2, rfl, hr2, ha2⟩
      have HR2 : Hid (Row w2 B v2 ((l ++ (leB L 4 ++ ((ls.take k).map pairB).flatten)) ++ pairB x)) := Lib.hid (by rw [pairB]; simpa only [List.append_assoc] using hr2)
      have HA2 := Lib.hid (HA3.out.trans ha2)
      clear hr2 ha2
      go_wp2_with fail
      go_roundw
      case rel => exact ⟨k + 1, by omega, by go_num, Lib.hid (by rw [flat_succ hkl, ← HX.out]; simpa only [List.append_assoc] using HR2.out), HA2⟩
      case measure => simp [intOf]; omega
    · have hkL : k = ls.length := by have := HL.out; omega
      have HK := Lib.hid hkL
      clear hkL
      go_wp2_with fail
      go_ret
      have hR := HR.out
      rw [HK.out, List.take_length] at hR
      exact ⟨_, rfl, by rw [listB, ← HL.out]; exact hR, HA.out⟩
end Go.Proofs.YtpnmhldaaaemeaaGreat.Snp
/- Chapter 24: the document's bytes: an identifier. -/
namespace Go.Proofs.YtpnmhldaaaemeaaGreat.Snp
open Go.RowKit Go.Proofs.YtpnmhldaaaemeaaGreat.Pin
theorem Ap.keep {w w' : World} {v v' : Value} (h : Ap w v w' v') {k : Nat} {o : Obj} (ho : w.heap[k]? = some o) (hv : v.ownBlock ≠ some k) : w'.heap[k]? = some o := (h.block k (Array.getElem?_eq_some_iff.1 ho).1 hv).trans ho
theorem Ap.away {w w' : World} {v v' : Value} (h : Ap w v w' v') {k : Nat} (hk : k < w.heap.size) (hv : v.ownBlock ≠ some k) : v'.ownBlock ≠ some k := by
  rcases h.row with e | ⟨r, e, hr⟩
  · rw [e]; exact hv
  · rw [e]; intro e2; have : r = k := by simpa using e2
    omega
set_option maxHeartbeats 1000000 in
set_option maxRecDepth 100000 in
theorem ref_id (a b : Nat) (v : Value) (l : List UInt8) (B : Nat) (w : World) (h : Row w B v l) (hB : B ≤ w.heap.size) (hx : a < 18446744073709551616 ∧ b < 18446744073709551616) (hb : l.length + 16 ≤ 140737488355328) :
    Adds 102 #[v, idV (a, b)] w B v l (idB (a, b)) := by
  obtain ⟨W, hW⟩ : ∃ W, W = w.alloc (.cells #[.int .u64 (a : Int), .int .u64 (b : Int)] 40) := ⟨_, rfl⟩
  obtain ⟨bx, hbx⟩ : ∃ bx, bx = w.heap.size := ⟨_, rfl⟩
  have HX : Hid (W.heap[bx]? = some (.cells #[.int .u64 (a : Int), .int .u64 (b : Int)] 40 (0, 0))) := Lib.hid (by rw [hW, hbx]; exact heap_alloc_new w _)
  have HRW : Hid (Row W B v l) := Lib.hid (by rw [hW]; exact h.alloc _)
  have HBW : Hid (B ≤ W.heap.size) := Lib.hid (by rw [hW]; exact Nat.le_trans hB (by simp))
  have HAW : Hid (Ap w v W v) := Lib.hid (by rw [hW]; exact Ap.alloc w v _)
  have HNE : Hid (v.ownBlock ≠ some bx) := Lib.hid (fun e => by have := (h.lt _ e).2; omega)
  have H1 := Lib.hid (fun n => ref_low a 8 v l B (W.drewN n) (HRW.out.drewN n) HBW.out hx.1 (by decide) (by omega))
  have H2 := Lib.hid (fun v' w' h' hB' => ref_low b 8 v' (l ++ leB a 8) B w' h' hB' hx.2 (by decide) (by rw [List.length_append, leB_len]; omega))
  have HS0 : Hid (W.cell? ⟨bx, 0, none⟩ = some (.int .u64 (a : Int)) ∧ W.cell? ⟨bx, 1, none⟩ = some (.int .u64 (b : Int))) := Lib.hid ⟨by rw [Lib.cell_of_heap HX.out]; rfl, by rw [Lib.cell_of_heap HX.out]; rfl⟩
  have HWE := Lib.hid hW
  have HBE := Lib.hid hbx
  unfold Adds
  clear h hb hx hB hW hbx
  go_enter Tryz.func102, Tryz.ntmps102
  go_wp2_with fail
  rw [← HWE.out, ← HBE.out]
  refine wp_region_pinS (fun w' => w'.cell? ⟨bx, 0, none⟩ = some (.int .u64 (a : Int)) ∧ w'.cell? ⟨bx, 1, none⟩ = some (.int .u64 (b : Int))) [0,0,0,2,0,0,2,0] (by kernel_rfl) (by kernel_rfl) (fun _ _ h => h) (HS0.out) ?_
  (refine pin_pure (fun K hK => ?_); go_simp; refine hK _ _ ?_; clear hK K)
  (refine pin_pure (fun K hK => ?_); go_simp; refine hK _ _ ?_; clear hK K)
  (refine pin_fixed (fun K hK => ?_); go_simp; refine ⟨.int .u64 (a : Int), fun w => ?_, hK _ _ ?_⟩; (intros; go_simp); clear hK K)
  (refine pin_writeS (fun K hK => ?_); go_simp; intro nw; refine (H1.out _).mono ?_; rintro e w1 ⟨v1, rfl, hr1, ha1⟩; obtain ⟨w2, rfl⟩ : ∃ w2, w1 = World.drewN w2 0 := ⟨w1, rfl⟩; have HR1 : Hid (Row w2 B v1 (l ++ leB a 8)) := Lib.hid hr1; have HA1 : Hid (Ap W v w2 v1) := Lib.hid ⟨ha1.os, ha1.tape, ha1.output, ha1.size, ha1.block, ha1.row⟩; clear hr1 ha1; refine ⟨_, rfl, _, ⟨_, rfl⟩, hK _ _ ?_ ?_⟩; (have hk := HA1.out.keep HX.out HNE.out; exact ⟨by rw [Lib.cell_of_heap hk]; rfl, by rw [Lib.cell_of_heap hk]; rfl⟩); clear hK K)
  (refine pin_pure (fun K hK => ?_); go_simp; refine hK _ _ ?_; clear hK K)
  (refine pin_fixed (fun K hK => ?_); go_simp; refine ⟨.int .u64 (b : Int), fun w => ?_, hK _ _ ?_⟩; (intros; go_simp); clear hK K)
  (refine pin_writeS (fun K hK => ?_); go_simp; intro nw; refine (H2.out _ (World.drewN w2 nw) (HR1.out.drewN nw) (Nat.le_trans HBW.out HA1.out.size)).mono ?_; rintro e w3 ⟨v2, rfl, hr2, ha2⟩; obtain ⟨w4, rfl⟩ : ∃ w2, w3 = World.drewN w2 0 := ⟨w3, rfl⟩; have HR2 : Hid (Row w4 B v2 (l ++ leB a 8 ++ leB b 8)) := Lib.hid hr2; have HA2 : Hid (Ap w2 v1 w4 v2) := Lib.hid ⟨ha2.os, ha2.tape, ha2.output, ha2.size, ha2.block, ha2.row⟩; clear hr2 ha2; refine ⟨_, rfl, _, ⟨_, rfl⟩, hK _ _ ?_ ?_⟩; (have hk := HA2.out.keep (HA1.out.keep HX.out HNE.out) (HA1.out.away (Array.getElem?_eq_some_iff.1 HX.out).1 HNE.out); exact ⟨by rw [Lib.cell_of_heap hk]; rfl, by rw [Lib.cell_of_heap hk]; rfl⟩); clear hK K)
  (refine pin_pure (fun K hK => ?_); go_simp; refine hK _ _ ?_; clear hK K)
  refine pin_nil ?_
  intro nq
  go_wp2_with fail
  go_ret
  exact ⟨_, rfl, by rw [idB, ← List.append_assoc]; exact HR2.out.drewN nq, ((HAW.out.trans HA1.out).trans HA2.out).drewN nq⟩
end Go.Proofs.YtpnmhldaaaemeaaGreat.Snp
/- Chapter 24: what a writer writes of a value, by its kind. Printed by gen_putk24.py. -/
namespace Go.Proofs.YtpnmhldaaaemeaaGreat.Snp
open Go.RowKit Go.Proofs.YtpnmhldaaaemeaaGreat.Pin

def vaB (v : Va) : List UInt8 := match v.kind with
  | 1 => textB v.text
  | 2 => listB textB v.list
  | 3 => listB pairB v.hash
  | 4 => listB textB v.set
  | 5 => listB scB v.zset
  | 6 => idB (v.ms, v.seq) ++ listB enB v.stream
  | _ => []
def putF (k : Nat) : FuncId := match k with
  | 1 => 30
  | 2 => 36
  | 3 => 44
  | 4 => 52
  | 5 => 55
  | _ => 62
abbrev vO (v : Va) (c : Cl) : Obj := .cells #[.int .u8 (v.kind : Int), .string v.text, c.lv, c.hv, c.sv, c.zv, c.ev, .int .u64 (v.ms : Int), .int .u64 (v.seq : Int)] 42
/-- the identifiers of entries are numbers of 64 bits -/
def IdsB (v : Va) : Prop := ∀ e ∈ v.stream, e.ms < 18446744073709551616 ∧ e.seq < 18446744073709551616
set_option maxHeartbeats 1000000 in
set_option maxRecDepth 100000 in
set_option linter.unusedVariables false in
theorem put_k1 (v : Va) (c : Cl) (l : List UInt8) (B g : Nat) (w : World) (h : Wr w B g l) (hv : ValAt w B c v) (hB : VaB v) (hi : IdsB v) (hb : l.length + (textB v.text).length ≤ 140737488355328) :
    Writes 30 #[.pointer (some ⟨g, 0, none⟩), vV v c] w B g l (textB v.text) := by
  have H := Lib.hid h
  have HL := Lib.hid h.lt
  have HB0 : Hid (Below B w (w.alloc (vO v c))) := Lib.hid ((Below.refl B w).alloc (by have := h.lt; have := h.ge; omega) _)
  have H1 := Lib.hid (text_wr v.text l B g (w.alloc (vO v c)) (h.alloc _) hb)
  clear h hv hB hi hb
  go_enter Tryz.func30, Tryz.ntmps30
  go_wp2_with fail
  refine H1.out.mono ?_
  rintro e w1 ⟨rfl, hw1, hp1⟩
  have HW1 := Lib.hid hw1
  have HP1 : Hid (Puts g w w1) := Lib.hid ((Puts.alloc g w _ HL.out).trans hp1)
  clear hw1 hp1
  go_wp2_with fail
  go_end0
  exact ⟨rfl, HW1.out, HP1.out⟩
set_option maxHeartbeats 1000000 in
set_option maxRecDepth 100000 in
set_option linter.unusedVariables false in
theorem put_k2 (v : Va) (c : Cl) (l : List UInt8) (B g : Nat) (w : World) (h : Wr w B g l) (hv : ValAt w B c v) (hB : VaB v) (hi : IdsB v) (hb : l.length + (listB textB v.list).length ≤ 140737488355328) :
    Writes 36 #[.pointer (some ⟨g, 0, none⟩), vV v c] w B g l (listB textB v.list) := by
  have H := Lib.hid h
  have HL := Lib.hid h.lt
  have HB0 : Hid (Below B w (w.alloc (vO v c))) := Lib.hid ((Below.refl B w).alloc (by have := h.lt; have := h.ge; omega) _)
  have H1 := Lib.hid (put_texts v.list _ l B g (w.alloc (vO v c)) (h.alloc _) (hv.list.below HB0.out) hB.list hb)
  clear h hv hB hi hb
  go_enter Tryz.func36, Tryz.ntmps36
  go_wp2_with fail
  refine H1.out.mono ?_
  rintro e w1 ⟨rfl, hw1, hp1⟩
  have HW1 := Lib.hid hw1
  have HP1 : Hid (Puts g w w1) := Lib.hid ((Puts.alloc g w _ HL.out).trans hp1)
  clear hw1 hp1
  go_wp2_with fail
  go_end0
  exact ⟨rfl, HW1.out, HP1.out⟩
set_option maxHeartbeats 1000000 in
set_option maxRecDepth 100000 in
set_option linter.unusedVariables false in
theorem put_k3 (v : Va) (c : Cl) (l : List UInt8) (B g : Nat) (w : World) (h : Wr w B g l) (hv : ValAt w B c v) (hB : VaB v) (hi : IdsB v) (hb : l.length + (listB pairB v.hash).length ≤ 140737488355328) :
    Writes 44 #[.pointer (some ⟨g, 0, none⟩), vV v c] w B g l (listB pairB v.hash) := by
  have H := Lib.hid h
  have HL := Lib.hid h.lt
  have HB0 : Hid (Below B w (w.alloc (vO v c))) := Lib.hid ((Below.refl B w).alloc (by have := h.lt; have := h.ge; omega) _)
  have H1 := Lib.hid (put_pairs v.hash _ l B g (w.alloc (vO v c)) (h.alloc _) (hv.hash.below HB0.out) hB.hash hb)
  clear h hv hB hi hb
  go_enter Tryz.func44, Tryz.ntmps44
  go_wp2_with fail
  refine H1.out.mono ?_
  rintro e w1 ⟨rfl, hw1, hp1⟩
  have HW1 := Lib.hid hw1
  have HP1 : Hid (Puts g w w1) := Lib.hid ((Puts.alloc g w _ HL.out).trans hp1)
  clear hw1 hp1
  go_wp2_with fail
  go_end0
  exact ⟨rfl, HW1.out, HP1.out⟩
set_option maxHeartbeats 1000000 in
set_option maxRecDepth 100000 in
set_option linter.unusedVariables false in
theorem put_k4 (v : Va) (c : Cl) (l : List UInt8) (B g : Nat) (w : World) (h : Wr w B g l) (hv : ValAt w B c v) (hB : VaB v) (hi : IdsB v) (hb : l.length + (listB textB v.set).length ≤ 140737488355328) :
    Writes 52 #[.pointer (some ⟨g, 0, none⟩), vV v c] w B g l (listB textB v.set) := by
  have H := Lib.hid h
  have HL := Lib.hid h.lt
  have HB0 : Hid (Below B w (w.alloc (vO v c))) := Lib.hid ((Below.refl B w).alloc (by have := h.lt; have := h.ge; omega) _)
  have H1 := Lib.hid (put_texts v.set _ l B g (w.alloc (vO v c)) (h.alloc _) (hv.set.below HB0.out) hB.set hb)
  clear h hv hB hi hb
  go_enter Tryz.func52, Tryz.ntmps52
  go_wp2_with fail
  refine H1.out.mono ?_
  rintro e w1 ⟨rfl, hw1, hp1⟩
  have HW1 := Lib.hid hw1
  have HP1 : Hid (Puts g w w1) := Lib.hid ((Puts.alloc g w _ HL.out).trans hp1)
  clear hw1 hp1
  go_wp2_with fail
  go_end0
  exact ⟨rfl, HW1.out, HP1.out⟩
set_option maxHeartbeats 1000000 in
set_option maxRecDepth 100000 in
set_option linter.unusedVariables false in
theorem put_k5 (v : Va) (c : Cl) (l : List UInt8) (B g : Nat) (w : World) (h : Wr w B g l) (hv : ValAt w B c v) (hB : VaB v) (hi : IdsB v) (hb : l.length + (listB scB v.zset).length ≤ 140737488355328) :
    Writes 55 #[.pointer (some ⟨g, 0, none⟩), vV v c] w B g l (listB scB v.zset) := by
  have H := Lib.hid h
  have HL := Lib.hid h.lt
  have HB0 : Hid (Below B w (w.alloc (vO v c))) := Lib.hid ((Below.refl B w).alloc (by have := h.lt; have := h.ge; omega) _)
  have H1 := Lib.hid (put_scoreds v.zset _ l B g (w.alloc (vO v c)) (h.alloc _) (hv.zset.below HB0.out) hB.zset hB.bits hb)
  clear h hv hB hi hb
  go_enter Tryz.func55, Tryz.ntmps55
  go_wp2_with fail
  refine H1.out.mono ?_
  rintro e w1 ⟨rfl, hw1, hp1⟩
  have HW1 := Lib.hid hw1
  have HP1 : Hid (Puts g w w1) := Lib.hid ((Puts.alloc g w _ HL.out).trans hp1)
  clear hw1 hp1
  go_wp2_with fail
  go_end0
  exact ⟨rfl, HW1.out, HP1.out⟩
set_option maxHeartbeats 1000000 in
set_option maxRecDepth 100000 in
set_option linter.unusedVariables false in
theorem put_k6 (v : Va) (c : Cl) (l : List UInt8) (B g : Nat) (w : World) (h : Wr w B g l) (hv : ValAt w B c v) (hB : VaB v) (hi : IdsB v) (hb : l.length + (idB (v.ms, v.seq) ++ listB enB v.stream).length ≤ 140737488355328) :
    Writes 62 #[.pointer (some ⟨g, 0, none⟩), vV v c] w B g l (idB (v.ms, v.seq) ++ listB enB v.stream) := by
  have H := Lib.hid h
  have HL := Lib.hid h.lt
  have HB0 : Hid (Below B w (w.alloc (vO v c))) := Lib.hid ((Below.refl B w).alloc (by have := h.lt; have := h.ge; omega) _)
  have hb' : l.length + (16 + (listB enB v.stream).length) ≤ 140737488355328 := by simp only [idB, leB_len, List.length_append] at hb; omega
  have H1 := Lib.hid (id_wr (v.ms, v.seq) l B g (w.alloc (vO v c)) (h.alloc _) hB.ids (by omega))
  have H2 := Lib.hid (fun w' hw h' => put_entries v.stream c.ev (l ++ idB (v.ms, v.seq)) B g w' h' (hv.stream.below hw) hB.stream (fun x hx => ⟨(hi x hx).1, (hi x hx).2, hB.pairs x hx⟩) (by rw [List.length_append]; simp only [idB, List.length_append, leB_len]; omega))
  clear h hv hB hi hb hb'
  go_enter Tryz.func62, Tryz.ntmps62
  go_wp2_with fail
  refine H1.out.mono ?_
  rintro e w1 ⟨rfl, hw1, hp1⟩
  have hk := Puts.keep H.out hp1
  have hc1 : w1.cell? ⟨w.heap.size, 6, none⟩ = some (c.ev) := by rw [Lib.cell_of_heap hk]; rfl
  have HW1 := Lib.hid hw1
  have HP1 : Hid (Puts g w w1) := Lib.hid ((Puts.alloc g w _ HL.out).trans hp1)
  clear hk hw1 hp1
  go_wp2_with fail
  refine (H2.out w1 (H.out.below HP1.out) HW1.out).mono ?_
  rintro e w2 ⟨rfl, hw2, hp2⟩
  have HW2 := Lib.hid hw2
  have HP2 : Hid (Puts g w w2) := Lib.hid (HP1.out.trans hp2)
  clear hw2 hp2
  go_wp2_with fail
  go_end0
  exact ⟨rfl, by rw [← List.append_assoc]; exact HW2.out, HP2.out⟩
set_option maxRecDepth 100000 in
theorem put_any (v : Va) (c : Cl) (l : List UInt8) (B g : Nat) (w : World) (h : Wr w B g l) (hv : ValAt w B c v) (hB : VaB v) (hi : IdsB v) (h1 : 1 ≤ v.kind) (h6 : v.kind ≤ 6) (hb : l.length + (vaB v).length ≤ 140737488355328) :
    Writes (putF v.kind) #[.pointer (some ⟨g, 0, none⟩), vV v c] w B g l (vaB v) := by
  have hk : v.kind = 1 ∨ v.kind = 2 ∨ v.kind = 3 ∨ v.kind = 4 ∨ v.kind = 5 ∨ v.kind = 6 := by omega
  unfold vaB at hb ⊢
  unfold putF
  rcases hk with hk | hk | hk | hk | hk | hk
  · simp only [hk] at hb ⊢
    exact put_k1 v c l B g w h hv hB hi hb
  · simp only [hk] at hb ⊢
    exact put_k2 v c l B g w h hv hB hi hb
  · simp only [hk] at hb ⊢
    exact put_k3 v c l B g w h hv hB hi hb
  · simp only [hk] at hb ⊢
    exact put_k4 v c l B g w h hv hB hi hb
  · simp only [hk] at hb ⊢
    exact put_k5 v c l B g w h hv hB hi hb
  · simp only [hk] at hb ⊢
    exact put_k6 v c l B g w h hv hB hi hb
end Go.Proofs.YtpnmhldaaaemeaaGreat.Snp
