/- Chapter 07: a dict in memory; its small functions. -/
import Derived.Test.YtnoalklbgncajaaDoorSip
import Derived.Test.YtnoalklbgncajaaDoorMapS
import Derived.Test.YtnoalklbgncajaaDoorPin2
import Derived.Test.YtnoalklbgncajaaDoorBkM
import Derived.Lib.Hide
import Derived.Lib.SliceRun
import Derived.LoopTactic
import Derived.WalkLawsBesides
import Derived.Deep.WholeRow
import Derived.Deep.MidRow
namespace Go.Proofs.YtnoalklbgncajaaDoor.Dct
open Go Go.RowKit Go.Proofs.YtnoalklbgncajaaDoor.Pin Go.Proofs.YtnoalklbgncajaaDoor.Mps Go.Proofs.YtnoalklbgncajaaDoor.Bok Go.Proofs.YtnoalklbgncajaaDoor.Uw Go.Proofs.YtnoalklbgncajaaDoor.Sip
theorem eql_tab (w : World) (a : Option Addr) (l c : Nat) : (binOp .eql 48 (.slice a l c) (.slice none 0 0)).run Tryd.prog w = .ok (.bool a.isNone) w := Lib.run_eql_slice_nil w _ _ a l c 0 0 Tryd.underlying48
theorem run_toInt {P : Program} {w : World} {s d : TypeId} {ds : TypeDesc} (hs : P.underlying s = some ds) (hd : P.underlying d = some (.int .i64)) (a : BitVec 64) (h : a.toNat < 9223372036854775808) : (convert s d (U a)).run P w = .ok (.int .i64 (a.toNat : Int)) w := by
  have h2 : (convert s d (U a)).run P w = .ok (.int .i64 (IntKind.i64.wrap (a.toNat : Int))) w := by
    simp [U, convert, run_underlying hs, run_underlying hd, Conv.intToInt]
  have h3 : IntKind.i64.wrap (a.toNat : Int) = (a.toNat : Int) := by rw [IntKind.wrap_i64]; omega
  rw [h2, h3]
attribute [local go_sem high] eql_tab
attribute [local go_sem high] run_store_U cells_U eqGuard_U asIntOf_U
/-- entries of a place; nil, or a map in a block -/
abbrev Ents := List (ByteArray × Int)
abbrev Pl := Option (Nat × Ents)
def plV : Pl → Value
  | none => .map none
  | some x => .map (some x.1)
def mapE (l : Ents) : List (ByteArray × Value) := l.map fun x => (x.1, .int .i64 x.2)
/-- a table: its row in block a, its places -/
structure TabAt (w : World) (a : Nat) (ps : List Pl) : Prop where
  row : w.heap[a]? = some (.cells (ps.map plV).toArray 52 (0, 0))
  map : ∀ x ∈ ps, ∀ b l, x = some (b, l) → MapAt w b (mapE l)
/-- the blocks of a table's maps -/
def blks (ps : List Pl) : List Nat := ps.filterMap fun x => x.map (·.1)
/-- what a dict is: its seed, its tables (block, places), how many places have moved -/
structure St where
  sd : BitVec 64
  a0 : Nat
  p0 : List Pl
  t1 : Option (Nat × List Pl)
  mv : Nat
  n : Nat
def t1V : Option (Nat × List Pl) → Value
  | none => .slice none 0 0
  | some x => .slice (some ⟨x.1, 0, none⟩) x.2.length x.2.length
def St.own (d : Nat) (s : St) : List Nat := d :: s.a0 :: blks s.p0 ++ (match s.t1 with | none => [] | some x => x.1 :: blks x.2)
def St.cells (s : St) : Array Value := #[U s.sd, .slice (some ⟨s.a0, 0, none⟩) s.p0.length s.p0.length, t1V s.t1, .int .i64 (s.mv : Int), .int .i64 (s.n : Int)]
structure DAt (w : World) (d : Nat) (s : St) : Prop where
  top : w.heap[d]? = some (.cells s.cells 51 (0, 0))
  tab0 : TabAt w s.a0 s.p0
  tab1 : ∀ x, s.t1 = some x → TabAt w x.1 x.2
  apart : (s.own d).Nodup
  len0 : 0 < s.p0.length ∧ s.p0.length ≤ 1099511627776
  len1 : ∀ x, s.t1 = some x → 0 < x.2.length ∧ x.2.length ≤ 1099511627776
theorem TabAt.frm {own : Nat → Prop} {w w' : World} {a : Nat} {ps : List Pl} (h : TabAt w a ps) (hf : Frm own w w') (ha : ¬ own a) (hb : ∀ b ∈ blks ps, ¬ own b) : TabAt w' a ps :=
  ⟨(hf.block a (Array.getElem?_eq_some_iff.1 h.row).1 ha).trans h.row, fun x hx b l e => (h.map x hx b l e).same (hf.block b (h.map x hx b l e).lt (hb b (List.mem_filterMap.2 ⟨x, hx, by rw [e]; rfl⟩)))⟩
theorem DAt.frm {own : Nat → Prop} {w w' : World} {d : Nat} {s : St} (h : DAt w d s) (hf : Frm own w w') (hn : ∀ b ∈ s.own d, ¬ own b) : DAt w' d s := by
  have h1 : ¬ own d := hn d (by simp [St.own])
  have h2 : ¬ own s.a0 := hn s.a0 (by simp [St.own])
  refine ⟨(hf.block d (Array.getElem?_eq_some_iff.1 h.top).1 h1).trans h.top, h.tab0.frm hf h2 (fun b hb => hn b (by simp [St.own, hb])), fun x hx => ?_, h.apart, h.len0, h.len1⟩
  exact (h.tab1 x hx).frm hf (hn x.1 (by simp [St.own, hx])) (fun b hb => hn b (by simp [St.own, hx, hb]))
theorem DAt.below {w w' : World} {d : Nat} {s : St} (h : DAt w d s) (hb : Below w.heap.size w w') : DAt w' d s := h.frm (Frm.of_below (own := fun _ => False) hb) (fun _ _ => id)
/-- the place of a key in a table of so many -/
def plc (sd : BitVec 64) (k : ByteArray) (n : Nat) : Nat := (sipP sd 0#64 k.data.toList &&& BitVec.ofNat 64 (n - 1)).toNat
theorem plc_lt (sd : BitVec 64) (k : ByteArray) {n : Nat} (h : 0 < n) (h2 : n ≤ 1099511627776) : plc sd k n < n := by
  unfold plc
  rw [BitVec.toNat_and]
  have h1 : (BitVec.ofNat 64 (n - 1)).toNat = n - 1 := by rw [BitVec.toNat_ofNat, Nat.mod_eq_of_lt (by omega)]
  have h3 := Nat.and_le_right (n := (sipP sd 0#64 k.data.toList).toNat) (m := (BitVec.ofNat 64 (n - 1)).toNat)
  omega
theorem gone_no {w : World} {d : Nat} {s : St} (h : DAt w d s) : Calls Tryd.prog 17 #[.pointer (some ⟨d, 0, none⟩)] w fun e w' => e = .returned (.bool false) ∧ w = w' := by
  have c1 : w.cell? ⟨d, 1, none⟩ = some (.slice (some ⟨s.a0, 0, none⟩) s.p0.length s.p0.length) := by rw [Lib.cell_of_heap h.top]; rfl
  go_enter Tryd.func17, Tryd.ntmps17
  go_wp2_with fail
  go_ret
  exact ⟨rfl, rfl⟩
theorem moves_any {w : World} {d : Nat} {s : St} (h : DAt w d s) : Calls Tryd.prog 19 #[.pointer (some ⟨d, 0, none⟩)] w fun e w' => e = .returned (.bool s.t1.isSome) ∧ w = w' := by
  have c1 : w.cell? ⟨d, 2, none⟩ = some (t1V s.t1) := by rw [Lib.cell_of_heap h.top]; rfl
  cases ht : s.t1 with
  | none =>
    rw [ht] at c1
    have c2 : w.cell? ⟨d, 2, none⟩ = some (.slice none 0 0) := c1
    clear c1
    go_enter Tryd.func19, Tryd.ntmps19
    go_wp2_with fail
    go_ret
    exact ⟨rfl, rfl⟩
  | some x =>
    rw [ht] at c1
    have c2 : w.cell? ⟨d, 2, none⟩ = some (.slice (some ⟨x.1, 0, none⟩) x.2.length x.2.length) := c1
    clear c1
    go_enter Tryd.func19, Tryd.ntmps19
    go_wp2_with fail
    go_ret
    exact ⟨rfl, rfl⟩
theorem len_any {w : World} {d : Nat} {s : St} (h : DAt w d s) : Calls Tryd.prog 16 #[.pointer (some ⟨d, 0, none⟩)] w fun e w' => e = .returned (.int .i64 (s.n : Int)) ∧ w = w' := by
  have c1 : w.cell? ⟨d, 4, none⟩ = some (.int .i64 (s.n : Int)) := by rw [Lib.cell_of_heap h.top]; rfl
  go_enter Tryd.func16, Tryd.ntmps16
  go_wp2_with fail
  go_ret
  exact ⟨rfl, rfl⟩
def n1 (t : Option (Nat × List Pl)) : Nat := match t with | none => 0 | some x => x.2.length
theorem slots_any {w : World} {d : Nat} {s : St} (h : DAt w d s) : Calls Tryd.prog 15 #[.pointer (some ⟨d, 0, none⟩)] w fun e w' => e = .returned (.tuple #[.int .i64 (s.p0.length : Int), .int .i64 (n1 s.t1 : Int)]) ∧ Below w.heap.size w w' := by
  have c1 : w.cell? ⟨d, 1, none⟩ = some (.slice (some ⟨s.a0, 0, none⟩) s.p0.length s.p0.length) := by rw [Lib.cell_of_heap h.top]; rfl
  have c2 : ∃ A c, w.cell? ⟨d, 2, none⟩ = some (.slice A (n1 s.t1) c) := by
    rw [Lib.cell_of_heap h.top]
    cases ht : s.t1 with
    | none => exact ⟨none, 0, by simp [St.cells, ht, t1V, n1]⟩
    | some x => exact ⟨some ⟨x.1, 0, none⟩, x.2.length, by simp [St.cells, ht, t1V, n1]⟩
  obtain ⟨A, c, c2⟩ := c2
  go_enter Tryd.func15, Tryd.ntmps15
  go_wp2_with fail
  refine wp_region_q [0,0,0,0,1,0,0,0,0,0,1,0,0,0] (by kernel_rfl) (by kernel_rfl) ?_
  (refine q_pure_n rfl (fun K hK => ?_); go_simp; refine hK _ _ ?_; clear hK K)
  (refine q_pure_n rfl (fun K hK => ?_); go_simp; refine hK _ _ ?_; clear hK K)
  (refine q_pure_n rfl (fun K hK => ?_); go_simp; refine hK _ _ ?_; clear hK K)
  (refine q_pure_n rfl (fun K hK => ?_); go_simp; refine hK _ _ ?_; clear hK K)
  (refine q_read_n rfl (fun K hK => ?_); go_simp; refine hK _ _ ?_; clear hK K)
  (refine q_pure_n rfl (fun K hK => ?_); go_simp; refine hK _ _ ?_; clear hK K)
  (refine q_pure_n rfl (fun K hK => ?_); go_simp; refine hK _ _ ?_; clear hK K)
  (refine q_pure_n rfl (fun K hK => ?_); go_simp; refine hK _ _ ?_; clear hK K)
  (refine q_pure_n rfl (fun K hK => ?_); go_simp; refine hK _ _ ?_; clear hK K)
  (refine q_pure_n rfl (fun K hK => ?_); go_simp; refine hK _ _ ?_; clear hK K)
  (refine q_read_n rfl (fun K hK => ?_); go_simp; refine hK _ _ ?_; clear hK K)
  (refine q_pure_n rfl (fun K hK => ?_); go_simp; refine hK _ _ ?_; clear hK K)
  (refine q_pure_n rfl (fun K hK => ?_); go_simp; refine hK _ _ ?_; clear hK K)
  (refine q_pure_n rfl (fun K hK => ?_); go_simp; refine hK _ _ ?_; clear hK K)
  refine q_nil ?_
  intro nq
  go_wp2_with fail
  refine bodyPost_ret (results_tmp2 rfl _ _ _) rfl ?_
  exact ⟨rfl, below_drewN (Below.refl _ _) _⟩
theorem run_andM (P : Program) (t : TypeId) (w : World) (a : BitVec 64) (m : Nat) (h : m < 18446744073709551616) : (binOp .and t (U a) (.int .u64 (m : Int))).run P w = .ok (U (a &&& BitVec.ofNat 64 m)) w := by
  rw [U_lit m h]
  exact run_and P t w a _
set_option maxRecDepth 100000 in
theorem find_any {w : World} {d : Nat} {s : St} (h : DAt w d s) (A : Option Addr) (N c : Nat) (k : ByteArray) (hN : 0 < N) (hN2 : N ≤ 1099511627776) (hk : k.size ≤ 140737488351232) :
    Calls Tryd.prog 25 #[.pointer (some ⟨d, 0, none⟩), .slice A N c, .string k] w fun e w' => e = .returned (.int .i64 (plc s.sd k N : Int)) ∧ Below w.heap.size w w' := by
  have c1 : w.cell? ⟨d, 0, none⟩ = some (U s.sd) := by rw [Lib.cell_of_heap h.top]; rfl
  have HS := Lib.hid (sip_any s.sd 0#64 k w hk)
  obtain ⟨m, rfl⟩ : ∃ m, N = m + 1 := ⟨N - 1, by omega⟩
  have e1 : ((m + 1 : Nat) : Int) - 1 = (m : Int) := by omega
  have HA := Lib.hid (fun (w : World) (t : TypeId) => run_andM Tryd.prog t w (sipP s.sd 0#64 k.data.toList) m (by omega))
  have HP : Hid ((sipP s.sd 0#64 k.data.toList &&& BitVec.ofNat 64 m).toNat = plc s.sd k (m + 1)) := Lib.hid rfl
  have HL := Lib.hid (plc_lt s.sd k hN hN2)
  clear h hN
  go_enter Tryd.func25, Tryd.ntmps25
  go_wp2_with fail
  rw [show (Value.int .u64 0 : Value) = U 0#64 from rfl]
  refine HS.out.mono ?_
  rintro e w' ⟨rfl, hb⟩
  have HB := Lib.hid hb
  have ha := HA.out
  have hcv := fun (w : World) => run_toInt (P := Tryd.prog) (w := w) Tryd.underlying22 Tryd.underlying3 (sipP s.sd 0#64 k.data.toList &&& BitVec.ofNat 64 m) (by have := HL.out; rw [HP.out]; omega)
  rw [HP.out] at hcv
  clear hb HS
  go_wp2_with fail
  go_ret
  exact ⟨rfl, HB.out⟩
end Go.Proofs.YtnoalklbgncajaaDoor.Dct
