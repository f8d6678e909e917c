import Derived.Test.YtpnmhldaaaemeaaMa5
import Derived.Deep.WholeRow
/- Chapter 24: has a value but what its kind has. -/
namespace Go.Proofs.Ytpnmhldaaaemeaa.Snp
open Go.RowKit Go.Proofs.Ytpnmhldaaaemeaa.Pin

theorem plain1_any (kd k : Nat) (bo : Bool) (b : Nat) (w : World) (h : w.cell? ⟨b, 0, none⟩ = some (.int .u8 (kd : Int))) :
    Calls Try.prog 76 #[.int .u8 (k : Int), .bool bo, .pointer (some ⟨b, 0, none⟩)] w fun e w' => e = .returned (.bool (pb (kd = k ∨ bo = true))) ∧ w = w' := by
  by_cases hk : kd = k
  · subst hk
    go_enter Try.func76, Try.ntmps76
    go_wp2_with fail
    go_ret
    exact ⟨ret_yes (by simp), rfl⟩
  · have hk' : ((kd : Int) == (k : Int)) = false := by
      cases hq : ((kd : Int) == (k : Int)) with
      | false => rfl
      | true => exact absurd (by have := eq_of_beq hq; omega) hk
    have HK := Lib.hid hk
    clear hk
    cases bo with
    | true =>
      go_enter Try.func76, Try.ntmps76
      go_wp2_with fail
      go_ret
      exact ⟨ret_yes (by simp), rfl⟩
    | false =>
      go_enter Try.func76, Try.ntmps76
      go_wp2_with fail
      go_ret
      exact ⟨ret_no (fun h => by rcases h with h | h; exact HK.out h; cases h), rfl⟩
/-- what is not its kind's is empty -/
def PlainP (v : Va) : Prop := (v.kind = 1 ∨ v.text = ⟨#[]⟩) ∧ (v.kind = 2 ∨ v.list.length = 0) ∧ (v.kind = 3 ∨ v.hash.length = 0) ∧ (v.kind = 4 ∨ v.set.length = 0) ∧ (v.kind = 5 ∨ v.zset.length = 0) ∧ (v.kind = 6 ∨ (v.stream.length = 0 ∧ v.ms = 0 ∧ v.seq = 0))
theorem empty_list : (⟨#[]⟩ : ByteArray).toList = [] := by rw [ByteArray.toList_eq]
theorem list_empty {s : ByteArray} (h : s.toList = []) : s = ⟨#[]⟩ := by
  rw [ByteArray.toList_eq] at h
  obtain ⟨⟨l⟩⟩ := s
  have : l = [] := h
  rw [this]
theorem plain_mk {v : Va} {n1 n2 n3 n4 n5 : Nat} (hn : n1 = v.list.length ∧ n2 = v.hash.length ∧ n3 = v.set.length ∧ n4 = v.zset.length ∧ n5 = v.stream.length)
    (h : (v.kind = 1 ∨ v.text.toList = []) ∧ (v.kind = 2 ∨ n1 = 0) ∧ (v.kind = 3 ∨ n2 = 0) ∧ (v.kind = 4 ∨ n3 = 0) ∧ (v.kind = 5 ∨ n4 = 0)) (h6 : v.kind = 6 ∨ (v.stream.length = 0 ∧ v.ms = 0 ∧ v.seq = 0)) : PlainP v := by
  obtain ⟨e1, e2, e3, e4, e5⟩ := hn
  obtain ⟨a1, a2, a3, a4, a5⟩ := h
  refine ⟨?_, by rcases a2 with h | h; exact .inl h; exact .inr (by omega), by rcases a3 with h | h; exact .inl h; exact .inr (by omega), by rcases a4 with h | h; exact .inl h; exact .inr (by omega), by rcases a5 with h | h; exact .inl h; exact .inr (by omega), h6⟩
  rcases a1 with h | h
  · exact .inl h
  · exact .inr (list_empty h)
set_option maxHeartbeats 4000000 in
theorem plain_any (v : Va) (c : Cl) (w : World) (hv : ValAt w w.heap.size c v) : Asks 21 #[vV v c] w (PlainP v) := by
  obtain ⟨lv, hv', sv, zv, ev⟩ := c
  obtain ⟨A1, c1, e1, _⟩ := hv.list
  obtain ⟨A2, c2, e2, _⟩ := hv.hash
  obtain ⟨A3, c3, e3, _⟩ := hv.set
  obtain ⟨A4, c4, e4, _⟩ := hv.zset
  obtain ⟨A5, c5, e5, _⟩ := hv.stream
  obtain rfl : lv = .slice A1 v.list.length c1 := e1
  obtain rfl : hv' = .slice A2 v.hash.length c2 := e2
  obtain rfl : sv = .slice A3 v.set.length c3 := e3
  obtain rfl : zv = .slice A4 v.zset.length c4 := e4
  obtain rfl : ev = .slice A5 v.stream.length c5 := e5
  clear hv
  unfold Asks
  have hbo := heap_alloc_new w (.cells #[.int .u8 (v.kind : Int), .string v.text, .slice A1 v.list.length c1, .slice A2 v.hash.length c2, .slice A3 v.set.length c3, .slice A4 v.zset.length c4, .slice A5 v.stream.length c5, .int .u64 (v.ms : Int), .int .u64 (v.seq : Int)] 31)
  have HC := Lib.hid (fun k bo => plain1_any v.kind k bo w.heap.size _ (by rw [Lib.cell_of_heap hbo]; rfl))
  clear hbo
  obtain ⟨n1, h1⟩ : ∃ n, n = v.list.length := ⟨_, rfl⟩
  obtain ⟨n2, h2⟩ : ∃ n, n = v.hash.length := ⟨_, rfl⟩
  obtain ⟨n3, h3⟩ : ∃ n, n = v.set.length := ⟨_, rfl⟩
  obtain ⟨n4, h4⟩ : ∃ n, n = v.zset.length := ⟨_, rfl⟩
  obtain ⟨n5, h5⟩ : ∃ n, n = v.stream.length := ⟨_, rfl⟩
  rw [← h1, ← h2, ← h3, ← h4, ← h5] at HC ⊢
  have HN := Lib.hid (And.intro h1 (And.intro h2 (And.intro h3 (And.intro h4 h5))))
  clear h1 h2 h3 h4 h5
  go_enter Try.func21, Try.ntmps21
  go_wp2_with fail
  refine (HC.out 1 _).mono ?_
  rintro e w' ⟨rfl, rfl⟩
  go_wp2_with fail
  rotate_left
  · go_ret
    exact ⟨ret_no (fun h => (show ¬ pb (v.kind = 1 ∨ v.text.toList = []) = true by assumption) (pb_true (by have := HN.out; rcases h.1 with h | h; exact .inl h; exact .inr (by rw [h]; exact empty_list)))), (Below.refl _ _).alloc (Nat.le_refl _) _⟩
  refine (HC.out 2 _).mono ?_
  rintro e w' ⟨rfl, rfl⟩
  go_wp2_with fail
  rotate_left
  · go_ret
    exact ⟨ret_no (fun h => (show ¬ pb (v.kind = 2 ∨ n1 = 0) = true by assumption) (pb_true (by have := HN.out; rcases h.2.1 with h | h; exact .inl h; exact .inr (by omega)))), (Below.refl _ _).alloc (Nat.le_refl _) _⟩
  refine (HC.out 3 _).mono ?_
  rintro e w' ⟨rfl, rfl⟩
  go_wp2_with fail
  rotate_left
  · go_ret
    exact ⟨ret_no (fun h => (show ¬ pb (v.kind = 3 ∨ n2 = 0) = true by assumption) (pb_true (by have := HN.out; rcases h.2.2.1 with h | h; exact .inl h; exact .inr (by omega)))), (Below.refl _ _).alloc (Nat.le_refl _) _⟩
  refine (HC.out 4 _).mono ?_
  rintro e w' ⟨rfl, rfl⟩
  go_wp2_with fail
  rotate_left
  · go_ret
    exact ⟨ret_no (fun h => (show ¬ pb (v.kind = 4 ∨ n3 = 0) = true by assumption) (pb_true (by have := HN.out; rcases h.2.2.2.1 with h | h; exact .inl h; exact .inr (by omega)))), (Below.refl _ _).alloc (Nat.le_refl _) _⟩
  refine (HC.out 5 _).mono ?_
  rintro e w' ⟨rfl, rfl⟩
  go_wp2_with fail
  all_goals first
    | (go_ret; exact ⟨ret_no (fun h => (show ¬ pb (v.kind = 5 ∨ n4 = 0) = true by assumption) (pb_true (by have := HN.out; rcases h.2.2.2.2.1 with h | h; exact .inl h; exact .inr (by omega)))), (Below.refl _ _).alloc (Nat.le_refl _) _⟩)
    | skip
  all_goals
    have p1 := of_pb (show pb (v.kind = 1 ∨ v.text.toList = []) = true by assumption)
    have p2 := of_pb (show pb (v.kind = 2 ∨ n1 = 0) = true by assumption)
    have p3 := of_pb (show pb (v.kind = 3 ∨ n2 = 0) = true by assumption)
    have p4 := of_pb (show pb (v.kind = 4 ∨ n3 = 0) = true by assumption)
    have p5 := of_pb (show pb (v.kind = 5 ∨ n4 = 0) = true by assumption)
    have HP := Lib.hid (And.intro p1 (And.intro p2 (And.intro p3 (And.intro p4 p5))))
    clear p1 p2 p3 p4 p5
    have qt : pb True = true := pb_true trivial
    by_cases h6 : v.kind = 6
    · have q6 := pb_true h6
      have H6 := Lib.hid h6
      clear h6
      refine (plain1_any v.kind 6 _ w.heap.size _ (by rw [Lib.cell_of_heap (heap_alloc_new w _)]; rfl)).mono ?_
      rintro e w' ⟨rfl, rfl⟩
      go_wp2_with fail
      go_ret
      exact ⟨ret_yes (plain_mk HN.out HP.out (.inl H6.out)), (Below.refl _ _).alloc (Nat.le_refl _) _⟩
    · have q6 := pb_false h6
      have H6 := Lib.hid h6
      clear h6
      refine (plain1_any v.kind 6 _ w.heap.size _ (by rw [Lib.cell_of_heap (heap_alloc_new w _)]; rfl)).mono ?_
      rintro e w' ⟨rfl, rfl⟩
      go_wp2_with fail
      go_ret
      first
        | exact ⟨ret_yes (plain_mk HN.out HP.out (.inr ⟨by have := HN.out; omega, by assumption, by assumption⟩)), (Below.refl _ _).alloc (Nat.le_refl _) _⟩
        | exact ⟨ret_no (fun h => by have h2 := HN.out; rcases h.2.2.2.2.2 with h | ⟨h3, h4, h5⟩; exact H6.out h; omega), (Below.refl _ _).alloc (Nat.le_refl _) _⟩
end Go.Proofs.Ytpnmhldaaaemeaa.Snp
/- Chapter 24: Check. -/
namespace Go.Proofs.Ytpnmhldaaaemeaa.Snp
open Go.RowKit Go.Proofs.Ytpnmhldaaaemeaa.Pin

abbrev fv (f : FuncId) : Value := .func (.func f) #[] #[]
abbrev kindsA : Array Value := #[.nilFunc, .nilFunc, .nilFunc, fv 35, fv 36, fv 37, fv 39, fv 42, fv 44, fv 46, fv 50, fv 53, fv 56, fv 58, fv 59, fv 60, fv 61, fv 64, fv 67, fv 68, fv 72]
abbrev zeroA : Array Value := #[.nilFunc, .nilFunc, .nilFunc, .nilFunc, .nilFunc, .nilFunc, .nilFunc, .nilFunc, .nilFunc, .nilFunc, .nilFunc, .nilFunc, .nilFunc, .nilFunc, .nilFunc, .nilFunc, .nilFunc, .nilFunc, .nilFunc, .nilFunc, .nilFunc]
theorem kinds_size : (Try.prog.info? 59).map (·.size) = some kindsA.size := by kernel_rfl
theorem wpList_built {P : Program} {ops : Array Oper} {rest : List Oper} {o : Oper} {a : Act} {w : World} {Q : Exit → Act → World → Prop} (hg : o.guard = none) (t : TypeId) (parts : Array (Nat × Operand)) (ho : o.op = .build t parts) (cells : Array Value)
    (hf : P.built t (parts.map fun (i, x) => (i, a.eval x)).toList = some cells) (h : wpList P ops Q rest (a.put o.dst (.agg cells)) w) : wpList P ops Q (o :: rest) a w := by
  refine wpList_build hg t parts ho (by rw [hf]; rfl) ?_
  rw [hf]
  exact h
set_option maxHeartbeats 2000000 in
set_option maxRecDepth 100000 in
theorem kinds_any (w : World) : Calls Try.prog 18 #[] w fun e w' => e = .returned (.agg kindsA) ∧ Below w.heap.size w w' := by
  go_enter Try.func18, Try.ntmps18
  go_wp2_with (first
    | (refine wpList_built (by rfl) 58 #[(0, Operand.func 35), (1, Operand.func 36), (2, Operand.func 37)] (by rfl) #[fv 35, fv 36, fv 37] (by kernel_rfl) ?_)
    | (refine wpList_built (by rfl) 58 #[(0, Operand.func 39), (1, Operand.func 42), (2, Operand.func 44)] (by rfl) #[fv 39, fv 42, fv 44] (by kernel_rfl) ?_)
    | (refine wpList_built (by rfl) 58 #[(0, Operand.func 46), (1, Operand.func 50), (2, Operand.func 53)] (by rfl) #[fv 46, fv 50, fv 53] (by kernel_rfl) ?_)
    | (refine wpList_built (by rfl) 58 #[(0, Operand.func 56), (1, Operand.func 58), (2, Operand.func 59)] (by rfl) #[fv 56, fv 58, fv 59] (by kernel_rfl) ?_)
    | (refine wpList_built (by rfl) 58 #[(0, Operand.func 60), (1, Operand.func 61), (2, Operand.func 64)] (by rfl) #[fv 60, fv 61, fv 64] (by kernel_rfl) ?_)
    | (refine wpList_built (by rfl) 58 #[(0, Operand.func 67), (1, Operand.func 68), (2, Operand.func 72)] (by rfl) #[fv 67, fv 68, fv 72] (by kernel_rfl) ?_)
    | (refine wpList_built (by rfl) 59 #[(1, .tmp 1), (2, .tmp 2), (3, .tmp 3), (4, .tmp 4), (5, .tmp 5), (6, .tmp 6)] (by rfl) kindsA (by kernel_rfl) ?_)
    | (refine wpList_store_row rfl 59 (.tmp 0) (.tmp 7) (by rfl) w.heap.size kindsA (by rfl) (by rfl) 59 zeroA (heap_alloc_new w _) kinds_size rfl (by kernel_rfl) ?_))
  rw [World.setRow_alloc_new]
  exact bodyPost_ret (results_cell_row rfl _ _ w.heap.size 59 kindsA (0, 0) _ rfl (heap_alloc_new w _) Try.underlying59 rfl kinds_size) rfl ⟨rfl, (Below.refl _ _).alloc (Nat.le_refl _) _⟩
end Go.Proofs.Ytpnmhldaaaemeaa.Snp
/- Chapter 24: may an item be. Printed by gen_fine24.py. -/
namespace Go.Proofs.Ytpnmhldaaaemeaa.Snp
open Go.RowKit Go.Proofs.Ytpnmhldaaaemeaa.Pin

def KindP (v : Va) : Prop := (v.kind = 1 → MayP v.text) ∧ (v.kind = 2 → 0 < v.list.length ∧ Ris MayP AnyP v.list) ∧ (v.kind = 3 → 0 < v.hash.length ∧ Ris PairP (fun p q => LtS p.1 q.1) v.hash) ∧ (v.kind = 4 → 0 < v.set.length ∧ Ris MayP LtS v.set) ∧ (v.kind = 5 → 0 < v.zset.length ∧ ZsP v.zset) ∧ (v.kind = 6 → Ris (EntP (v.ms, v.seq)) ElessP v.stream)
def FineP (it : It) : Prop := (0 ≤ it.db ∧ it.db < 16) ∧ MayP it.key ∧ (0 ≤ it.dead ∧ it.dead ≤ 9007199254740992) ∧ (1 ≤ it.val.kind ∧ it.val.kind ≤ 6) ∧ PlainP it.val ∧ KindP it.val
theorem may_yes {s : ByteArray} (h : MayP s) (w : World) : Calls Try.prog 20 #[.string s] w fun e w' => e = .returned (.bool true) ∧ w = w' := by
  have := may_any s w
  rw [pb_true h] at this
  exact this
theorem may_no {s : ByteArray} (h : ¬ MayP s) (w : World) : Calls Try.prog 20 #[.string s] w fun e w' => e = .returned (.bool false) ∧ w = w' := by
  have := may_any s w
  rw [pb_false h] at this
  exact this
abbrev iV (it : It) (c : Cl) : Value := .agg #[.int .i64 it.db, .string it.key, .int .u8 (it.val.kind : Int), .string it.val.text, c.lv, c.hv, c.sv, c.zv, c.ev, .int .u64 (it.val.ms : Int), .int .u64 (it.val.seq : Int), .int .i64 it.dead]
abbrev iO (it : It) (c : Cl) : Obj := .cells #[.int .i64 it.db, .string it.key, .int .u8 (it.val.kind : Int), .string it.val.text, c.lv, c.hv, c.sv, c.zv, c.ev, .int .u64 (it.val.ms : Int), .int .u64 (it.val.seq : Int), .int .i64 it.dead] 33
theorem val_size : (Try.prog.info? 31).map (·.size) = some 9 := by kernel_rfl
theorem load_val (it : It) (c : Cl) (W : World) (b : Nat) (h : W.heap[b]? = some (iO it c)) : (Instr.loadAt 31 (.pointer (some ⟨b, 2, none⟩))).run Try.prog W = .ok (vV it.val c) W :=
  run_loadAt_mid W b 2 31 (vcells it.val c) _ (fun j u hj => by
    rw [Lib.cell_of_heap h]
    have hl : j < 9 := by
      rcases Nat.lt_or_ge j 9 with h | h
      · exact h
      · rw [List.getElem?_eq_none (by simp [vcells]; omega)] at hj
        cases hj
    match j, hl with
    | 0, _ => exact hj
    | 1, _ => exact hj
    | 2, _ => exact hj
    | 3, _ => exact hj
    | 4, _ => exact hj
    | 5, _ => exact hj
    | 6, _ => exact hj
    | 7, _ => exact hj
    | 8, _ => exact hj) Try.underlying31 rfl val_size
theorem at_kind {it : It} {c : Cl} {f k : Nat} {W : World} {R : Prop} (hk : it.val.kind = k) (h : Asks f #[vV it.val c] W R) : Asks f #[.agg #[.int .u8 (k : Int), .string it.val.text, c.lv, c.hv, c.sv, c.zv, c.ev, .int .u64 (it.val.ms : Int), .int .u64 (it.val.seq : Int)]] W R := by
  rw [← hk]
  exact h
theorem kind_iff {it : It} {k : Nat} {R : Prop} (hk : it.val.kind = k) (h1 : 0 ≤ it.db ∧ it.db < 16) (h0 : 1 ≤ k ∧ k ≤ 6) (h3 : MayP it.key) (h4 : 0 ≤ it.dead) (h5 : it.dead ≤ 9007199254740992) (h8 : PlainP it.val) (hR : KindP it.val ↔ R) : R ↔ FineP it :=
  ⟨fun h => ⟨h1, h3, ⟨h4, h5⟩, ⟨by omega, by omega⟩, h8, hR.2 h⟩, fun h => hR.1 h.2.2.2.2.2⟩
end Go.Proofs.Ytpnmhldaaaemeaa.Snp
