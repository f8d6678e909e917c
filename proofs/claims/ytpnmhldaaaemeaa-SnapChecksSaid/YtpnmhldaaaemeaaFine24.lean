/- Chapter 24: may an item be. Printed by gen_fine24.py. -/
import Derived.Test.YtpnmhldaaaemeaaCheck24
namespace Go.Proofs.Ytpnmhldaaaemeaa.Snp
open Go.RowKit Go.Proofs.Ytpnmhldaaaemeaa.Pin

def KindP (v : Va) : Prop := (v.kind = 1 → MayP v.text) ∧ (v.kind = 2 → 0 < v.list.length ∧ Ris MayP AnyP v.list) ∧ (v.kind = 3 → 0 < v.hash.length ∧ Ris PairP (fun p q => LtS p.1 q.1) v.hash) ∧ (v.kind = 4 → 0 < v.set.length ∧ Ris MayP LtS v.set) ∧ (v.kind = 5 → 0 < v.zset.length ∧ ZsP v.zset) ∧ (v.kind = 6 → Ris (EntP (v.ms, v.seq)) ElessP v.stream)
def FineP (it : It) : Prop := (0 ≤ it.db ∧ it.db < 16) ∧ MayP it.key ∧ (0 ≤ it.dead ∧ it.dead ≤ 9007199254740992) ∧ (1 ≤ it.val.kind ∧ it.val.kind ≤ 6) ∧ PlainP it.val ∧ KindP it.val
theorem may_yes {s : ByteArray} (h : MayP s) (w : World) : Calls Try.prog 20 #[.string s] w fun e w' => e = .returned (.bool true) ∧ w = w' := by
  have := may_any s w
  rw [pb_true h] at this
  exact this
theorem may_no {s : ByteArray} (h : ¬ MayP s) (w : World) : Calls Try.prog 20 #[.string s] w fun e w' => e = .returned (.bool false) ∧ w = w' := by
  have := may_any s w
  rw [pb_false h] at this
  exact this
abbrev iV (it : It) (c : Cl) : Value := .agg #[.int .i64 it.db, .string it.key, .int .u8 (it.val.kind : Int), .string it.val.text, c.lv, c.hv, c.sv, c.zv, c.ev, .int .u64 (it.val.ms : Int), .int .u64 (it.val.seq : Int), .int .i64 it.dead]
abbrev iO (it : It) (c : Cl) : Obj := .cells #[.int .i64 it.db, .string it.key, .int .u8 (it.val.kind : Int), .string it.val.text, c.lv, c.hv, c.sv, c.zv, c.ev, .int .u64 (it.val.ms : Int), .int .u64 (it.val.seq : Int), .int .i64 it.dead] 33
theorem val_size : (Try.prog.info? 31).map (·.size) = some 9 := by kernel_rfl
theorem load_val (it : It) (c : Cl) (W : World) (b : Nat) (h : W.heap[b]? = some (iO it c)) : (Instr.loadAt 31 (.pointer (some ⟨b, 2, none⟩))).run Try.prog W = .ok (vV it.val c) W :=
  run_loadAt_mid W b 2 31 (vcells it.val c) _ (fun j u hj => by
    rw [Lib.cell_of_heap h]
    have hl : j < 9 := by
      rcases Nat.lt_or_ge j 9 with h | h
      · exact h
      · rw [List.getElem?_eq_none (by simp [vcells]; omega)] at hj
        cases hj
    match j, hl with
    | 0, _ => exact hj
    | 1, _ => exact hj
    | 2, _ => exact hj
    | 3, _ => exact hj
    | 4, _ => exact hj
    | 5, _ => exact hj
    | 6, _ => exact hj
    | 7, _ => exact hj
    | 8, _ => exact hj) Try.underlying31 rfl val_size
theorem at_kind {it : It} {c : Cl} {f k : Nat} {W : World} {R : Prop} (hk : it.val.kind = k) (h : Asks f #[vV it.val c] W R) : Asks f #[.agg #[.int .u8 (k : Int), .string it.val.text, c.lv, c.hv, c.sv, c.zv, c.ev, .int .u64 (it.val.ms : Int), .int .u64 (it.val.seq : Int)]] W R := by
  rw [← hk]
  exact h
theorem kind_iff {it : It} {k : Nat} {R : Prop} (hk : it.val.kind = k) (h1 : 0 ≤ it.db ∧ it.db < 16) (h0 : 1 ≤ k ∧ k ≤ 6) (h3 : MayP it.key) (h4 : 0 ≤ it.dead) (h5 : it.dead ≤ 9007199254740992) (h8 : PlainP it.val) (hR : KindP it.val ↔ R) : R ↔ FineP it :=
  ⟨fun h => ⟨h1, h3, ⟨h4, h5⟩, ⟨by omega, by omega⟩, h8, hR.2 h⟩, fun h => hR.1 h.2.2.2.2.2⟩
end Go.Proofs.Ytpnmhldaaaemeaa.Snp
