/- Chapter 09: Rank, Len. -/
import Derived.Test.YtmlaackdcnpjmaaDoorFnd09
namespace Go.Proofs.YtmlaackdcnpjmaaDoor.Skp
open Go Go.RowKit Go.Proofs.YtmlaackdcnpjmaaDoor.Pin Go.Proofs.YtmlaackdcnpjmaaDoor.Flt
/-- a whole row written into block g -/
structure Into (g : Nat) (cells : Array Value) (t : TypeId) (w w' : World) : Prop where
  os : w'.os = w.os
  tape : w'.tape = w.tape
  output : w'.output = w.output
  size : w'.heap.size = w.heap.size
  at_ : w'.heap[g]? = some (.cells cells t (0, 0))
  other : ∀ r, r ≠ g → w'.heap[r]? = w.heap[r]?
theorem Into.below {g n : Nat} {cells : Array Value} {t : TypeId} {w0 w w' : World} (h : Into g cells t w w') (hb : Below n w0 w) (hn : n ≤ g) : Below n w0 w' :=
  ⟨h.os.trans hb.os, h.tape.trans hb.tape, h.output.trans hb.output, by rw [h.size]; exact hb.size, fun k hk => (h.other k (by omega)).trans (hb.block k hk)⟩
theorem wpList_store_into {P : Program} {ops : Array Oper} {rest : List Oper} {o : Oper} {a : Act} {w : World} {Q : Exit → Act → World → Prop} (hgd : o.guard = none) (ty : TypeId) (x y : Operand) (ho : o.op = .store ty x y)
    (g : Nat) (cells : Array Value) (hx : a.eval x = .pointer (some ⟨g, 0, none⟩)) (hy : a.eval y = .agg cells)
    (t : TypeId) (old : Array Value) (hg : w.heap[g]? = some (.cells old t (0, 0))) (hi : (P.info? ty).map (·.size) = some cells.size)
    (hold : old.size = cells.size) (h1 : cells.all (·.oneCell') = true)
    (h : ∀ w', Into g cells t w w' → wpList P ops Q rest (a.put o.dst undef) w') : wpList P ops Q (o :: rest) a w :=
  wpList_store_row hgd ty x y ho g cells hx hy t old hg hi hold h1 (h _ ⟨rfl, rfl, rfl, by simp [World.setRow], setRow_heap _ _ _ _ _ _ hg, fun r hr => setRow_other _ _ _ _ hr⟩)
theorem below_two {w0 w : World} {n : Nat} (hb : Below n w0 w) (hn : n ≤ w.heap.size) (o1 o2 : Obj) : Below n w0 ((w.alloc o1).alloc o2) := (hb.alloc hn _).alloc (by simp; omega) _
set_option maxHeartbeats 1000000 in
set_option maxRecDepth 100000 in
theorem rank_any {own : Nat → Prop} {s seed n : Nat} {bl ht : Nat → Nat} {mem : Nat → Sc} (m : Sc) (P : Nat) (w : World) (hS : Sk w own s seed n bl ht mem) (hP : P ≤ n) (hq : ∀ p, 0 < p → p ≤ n → (lessB (mem p) m = true ↔ p ≤ P)) :
    Calls Tryd.prog 14 #[.pointer (some ⟨s, 0, none⟩), scV m] w fun e w' => e = .returned (.tuple #[.int .i64 (if hitB n mem P m = true then (P : Int) else 0), .bool (hitB n mem P m)]) ∧ Below w.heap.size w w' := by
  have HS := Lib.hid hS
  have HP := Lib.hid hP
  have HB0 := Lib.hid ((Below.refl w.heap.size w).alloc (Nat.le_refl _) (.cells #[.string m.1, .float .f64 m.2] 31))
  have HFN := Lib.hid (find_any m P _ (hS.below ((Below.refl w.heap.size w).alloc (Nat.le_refl _) (.cells #[.string m.1, .float .f64 m.2] 31))) hP hq)
  have HG := Lib.hid (fun W (hW : Below w.heap.size w W) => gone_no s (bl 0) W (hS.below hW).head)
  obtain ⟨ok, hok⟩ : ∃ ok, ok = hitB n mem P m := ⟨_, rfl⟩
  rw [← hok] at HFN ⊢
  obtain ⟨r, hr⟩ : ∃ r : Int, r = if ok = true then (P : Int) else 0 := ⟨_, rfl⟩
  rw [← hr]
  have HR := Lib.hid hr
  clear hS hP hq hok hr
  go_enter Tryd.func14, Tryd.ntmps14
  go_wp2_with fail
  refine (HG.out _ HB0.out).mono ?_
  rintro e w' ⟨rfl, rfl⟩
  go_wp2_with fail
  refine HFN.out.mono ?_
  rintro e w1 ⟨⟨A, K, rfl, hW⟩, hb1⟩
  have HB1 := Lib.hid (HB0.out.trans (hb1.mono HB0.out.size))
  have HW := Lib.hid hW
  have HAS := Lib.hid hW.1
  have HKS := Lib.hid hW.2.1
  have HOA := Lib.hid hW.oneA
  have HOK := Lib.hid hW.oneK
  clear hb1 hW
  obtain ⟨a, hla, _, hk0⟩ := HW.out.2.2 0 (Nat.le_refl _) (by omega)
  obtain rfl : a = P := lst_low (fun p hp => (HS.out.htb p (Nat.le_trans hp HP.out)).1) hla
  have HK0 := Lib.hid hk0
  clear hla hk0
  cases ok with
  | false =>
    obtain rfl : r = 0 := by simpa using HR.out
    clear HR
    go_wp2_with (first | (refine wpList_store_into rfl 65 (.tmp 6) (.tmp 15) (by rfl) w1.heap.size A (by rfl) (by rfl) 65 _ (two_new w1 _ _).1 (by rw [HAS.out]; exact info_nodes) (by rw [HAS.out]; rfl) HOA.out ?_; intro W1 hI1) | (refine wpList_store_into rfl 66 (.tmp 7) (.tmp 16) (by rfl) (w1.heap.size + 1) K (by rfl) (by rfl) 66 _ ((hI1.other _ (by omega)).trans (two_new w1 _ _).2) (by rw [HKS.out]; exact info_ints) (by rw [HKS.out]; rfl) HOK.out ?_; intro W2 hI2; have HB2 := Lib.hid (hI2.below (hI1.below (below_two HB1.out HB1.out.size _ _) HB1.out.size) (by have := HB1.out.size; omega)); clear hI1 hI2))
    go_ret2
    exact ⟨rfl, HB2.out⟩
  | true =>
    obtain rfl : r = (a : Int) := by simpa using HR.out
    clear HR
    go_wp2_with (first | (refine wpList_store_into rfl 65 (.tmp 6) (.tmp 15) (by rfl) w1.heap.size A (by rfl) (by rfl) 65 _ (two_new w1 _ _).1 (by rw [HAS.out]; exact info_nodes) (by rw [HAS.out]; rfl) HOA.out ?_; intro W1 hI1) | (refine wpList_store_into rfl 66 (.tmp 7) (.tmp 16) (by rfl) (w1.heap.size + 1) K (by rfl) (by rfl) 66 _ ((hI1.other _ (by omega)).trans (two_new w1 _ _).2) (by rw [HKS.out]; exact info_ints) (by rw [HKS.out]; rfl) HOK.out ?_; intro W2 hI2; have HB2 := Lib.hid (hI2.below (hI1.below (below_two HB1.out HB1.out.size _ _) HB1.out.size) (by have := HB1.out.size; omega)); have k0 : W2.cell? ⟨w1.heap.size + 1, 0, none⟩ = some (.int .i64 (a : Int)) := (by rw [Lib.cell_of_heap hI2.at_]; exact HK0.out); clear hI1 hI2))
    go_ret2
    exact ⟨rfl, HB2.out⟩
theorem len_any {own : Nat → Prop} {s seed n : Nat} {bl ht : Nat → Nat} {mem : Nat → Sc} (w : World) (hS : Sk w own s seed n bl ht mem) : Calls Tryd.prog 12 #[.pointer (some ⟨s, 0, none⟩)] w fun e w' => e = .returned (.int .i64 (n : Int)) ∧ w = w' := by
  have h2 : w.cell? ⟨s, 2, none⟩ = some (.int .i64 (n : Int)) := by rw [Lib.cell_of_heap hS.top]; rfl
  clear hS
  go_enter Tryd.func12, Tryd.ntmps12
  go_wp2_with fail
  go_ret
  exact ⟨rfl, rfl⟩
end Go.Proofs.YtmlaackdcnpjmaaDoor.Skp
