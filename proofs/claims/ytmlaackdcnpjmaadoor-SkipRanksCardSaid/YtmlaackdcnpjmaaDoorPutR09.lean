/- Chapter 09: what stands in memory while a node is put in, or taken out: height by height. -/
import Derived.Test.YtmlaackdcnpjmaaDoorBtw09
namespace Go.Proofs.YtmlaackdcnpjmaaDoor.Skp
open Go Go.RowKit Go.Proofs.YtmlaackdcnpjmaaDoor.Pin Go.Proofs.YtmlaackdcnpjmaaDoor.Flt
theorem set_block_other (w : World) (a : Addr) (u : Value) (k : Nat) (h : k ≠ a.block) : (w.setCell a u).heap[k]? = w.heap[k]? := by
  simp only [World.setCell, Array.getElem?_modify]
  rw [if_neg (Ne.symm h)]
/-- what lay there and is not the list's own stays -/
structure Frm (own : Nat → Prop) (w w' : World) : Prop where
  os : w'.os = w.os
  tape : w'.tape = w.tape
  output : w'.output = w.output
  size : w.heap.size ≤ w'.heap.size
  block : ∀ k, k < w.heap.size → ¬ own k → w'.heap[k]? = w.heap[k]?
theorem Frm.of_below {own : Nat → Prop} {w w' : World} (h : Below w.heap.size w w') : Frm own w w' := ⟨h.os, h.tape, h.output, h.size, fun k hk _ => h.block k hk⟩
theorem Frm.refl {own : Nat → Prop} (w : World) : Frm own w w := ⟨rfl, rfl, rfl, Nat.le_refl _, fun _ _ _ => rfl⟩
theorem Frm.trans {own own' : Nat → Prop} {a b c : World} (h : Frm own a b) (k : Frm own' b c) (ho : ∀ x, x < a.heap.size → own' x → own x) : Frm own a c :=
  ⟨k.os.trans h.os, k.tape.trans h.tape, k.output.trans h.output, Nat.le_trans h.size k.size, fun x hx hn => (k.block x (Nat.lt_of_lt_of_le hx h.size) (fun hc => hn (ho x hx hc))).trans (h.block x hx hn)⟩
theorem Frm.set {own : Nat → Prop} {w w' : World} (h : Frm own w w') (a : Addr) (v : Value) (ha : a.block < w.heap.size → own a.block) : Frm own w (w'.setCell a v) :=
  ⟨h.os, h.tape, h.output, by simpa using h.size, fun k hk hn => by
    have hne : k ≠ a.block := fun e => hn (e ▸ ha (e ▸ hk))
    exact (set_block_other w' a v k hne).trans (h.block k hk hn)⟩
/-- cells, after a write -/
theorem cel_same_set {w : World} {b o : Nat} {u v : Value} (h : cel w b o = some u) : cel (w.setCell ⟨b, o, none⟩ v) b o = some v := World.cell?_setCell_same w _ _ h
theorem cel_other_set {w : World} {b o b' o' : Nat} {v : Value} (h : b' ≠ b ∨ o' ≠ o) : cel (w.setCell ⟨b, o, none⟩ v) b' o' = cel w b' o' :=
  World.cell?_setCell_other w _ _ _ (fun e => by injection e with e1 e2; rcases h with h | h; exact h e1.symm; exact h e2.symm)
/-- a node's block -/
def NodeAt (w : World) (b : Nat) : Prop := ∃ cs, w.heap[b]? = some (.cells cs 64 (0, 0)) ∧ cs.size = 67
theorem NodeAt.set {w : World} {b : Nat} (h : NodeAt w b) (c o : Nat) (v : Value) : NodeAt (w.setCell ⟨c, o, none⟩ v) b := by
  obtain ⟨cs, h1, h2⟩ := h
  by_cases hb : b = c
  · subst hb
    refine ⟨cs.setIfInBounds o v, ?_, by simpa using h2⟩
    rw [setCell_eq_setRow w b o cs _ (0, 0) v h1]
    exact setRow_heap _ _ _ _ _ _ h1
  · exact ⟨cs, (set_block_other w ⟨c, o, none⟩ v b hb).trans h1, h2⟩
theorem NodeAt.cell {w : World} {b : Nat} (h : NodeAt w b) {o : Nat} (ho : o < 67) : (∃ v, w.cell? ⟨b, o, none⟩ = some v) ∧ w.frozen? ⟨b, o, none⟩ = false := by
  obtain ⟨cs, h1, h2⟩ := h
  exact ⟨⟨cs[o]'(by omega), by rw [Lib.cell_of_heap h1]; simp [h2, ho]⟩, Lib.frozen_of_heap h1 o⟩
/-- while node bx is put in behind position P: below height j all is as it shall be, from j on as it was -/
structure PutR (W0 : World) (own : Nat → Prop) (n : Nat) (bl ht : Nat → Nat) (P bx H j : Nat) (wr : World) : Prop where
  frm : Frm own W0 wr
  size : wr.heap.size = W0.heap.size
  keep : ∀ k, k ≠ bx → (∀ p, p ≤ n → k ≠ bl p) → wr.heap[k]? = W0.heap[k]?
  node : ∀ p, p ≤ n → NodeAt wr (bl p)
  nodx : NodeAt wr bx
  low : ∀ b o, o < 3 → cel wr b o = cel W0 b o
  done : ∀ h, h < j → Lvl (cel wr) (n + 1) (ins P bl bx) (ins P ht H) h
  todo : ∀ h, j ≤ h → h < 32 → Lvl (cel wr) n bl ht h ∧ cel wr bx (3 + h * 2) = some (.pointer none) ∧ cel wr bx (3 + h * 2 + 1) = some (.int .i64 0)
section
variable {W0 : World} {own : Nat → Prop} {n : Nat} {bl ht : Nat → Nat} {P bx H j a : Nat} {wr : World}
theorem lvl_far {c c' : Nat → Nat → Option Value} {m : Nat} {bl ht : Nat → Nat} {h : Nat} (hl : Lvl c m bl ht h) (hk : ∀ b o, (o = 3 + h * 2 ∨ o = 3 + h * 2 + 1) → c' b o = c b o) : Lvl c' m bl ht h := hl.same fun p _ o ho => hk (bl p) o ho
/-- the node reaches so high -/
theorem PutR.high (hR : PutR W0 own n bl ht P bx H j wr) (hj : j < 32) (hjH : j < H) (hP : P ≤ n) (ha : Lst ht P j a) (hinj : ∀ p q, p ≤ n → q ≤ n → bl p = bl q → p = q) (hx : ∀ p, p ≤ n → bl p ≠ bx) (hob : ∀ p, p ≤ n → own (bl p)) (hox : bx < W0.heap.size → own bx) (hn : n ≤ 1099511627776)
    {to : Option Addr} {sp s' : Int} (ct : cel wr (bl a) (3 + j * 2) = some (.pointer to)) (cs : cel wr (bl a) (3 + j * 2 + 1) = some (.int .i64 sp)) (hs : s' = IntKind.i64.wrap (IntKind.i64.wrap (sp - ((P : Int) - a + 1)) + 1)) (k : Nat) :
    PutR W0 own n bl ht P bx H (j + 1) (((((wr.setCell ⟨bx, 3 + j * 2, none⟩ (.pointer to)).setCell ⟨bx, 3 + j * 2 + 1, none⟩ (.int .i64 s')).drewN k).setCell ⟨bl a, 3 + j * 2, none⟩ (.pointer (some ⟨bx, 0, none⟩))).setCell ⟨bl a, 3 + j * 2 + 1, none⟩ (.int .i64 ((P : Int) - a + 1))) := by
  have hax : bl a ≠ bx := hx a (Nat.le_trans ha.1 hP)
  obtain ⟨tl, t1, t2⟩ := hR.todo j (Nat.le_refl _) hj
  obtain ⟨W, hW⟩ : ∃ W, W = (((((wr.setCell ⟨bx, 3 + j * 2, none⟩ (.pointer to)).setCell ⟨bx, 3 + j * 2 + 1, none⟩ (.int .i64 s')).drewN k).setCell ⟨bl a, 3 + j * 2, none⟩ (.pointer (some ⟨bx, 0, none⟩))).setCell ⟨bl a, 3 + j * 2 + 1, none⟩ (.int .i64 ((P : Int) - a + 1))) := ⟨_, rfl⟩
  rw [← hW]
  have far : ∀ b o, (b ≠ bx ∧ b ≠ bl a) ∨ (o ≠ 3 + j * 2 ∧ o ≠ 3 + j * 2 + 1) → cel W b o = cel wr b o := fun b o h => by
    rw [hW]
    rw [cel_other_set (by rcases h with h | h; exact .inl h.2; exact .inr h.2), cel_other_set (by rcases h with h | h; exact .inl h.2; exact .inr h.1)]
    show cel ((wr.setCell ⟨bx, 3 + j * 2, none⟩ (.pointer to)).setCell ⟨bx, 3 + j * 2 + 1, none⟩ (.int .i64 s')) b o = _
    rw [cel_other_set (by rcases h with h | h; exact .inl h.1; exact .inr h.2), cel_other_set (by rcases h with h | h; exact .inl h.1; exact .inr h.1)]
  have e4 : cel W (bl a) (3 + j * 2 + 1) = some (.int .i64 ((P : Int) - a + 1)) := by
    rw [hW]
    refine cel_same_set (u := .int .i64 sp) ?_
    rw [cel_other_set (.inr (by omega))]
    show cel ((wr.setCell ⟨bx, 3 + j * 2, none⟩ (.pointer to)).setCell ⟨bx, 3 + j * 2 + 1, none⟩ (.int .i64 s')) (bl a) (3 + j * 2 + 1) = _
    rw [cel_other_set (.inl hax), cel_other_set (.inl hax)]
    exact cs
  have e3 : cel W (bl a) (3 + j * 2) = some (.pointer (some ⟨bx, 0, none⟩)) := by
    rw [hW, cel_other_set (.inr (by omega))]
    refine cel_same_set (u := .pointer to) ?_
    show cel ((wr.setCell ⟨bx, 3 + j * 2, none⟩ (.pointer to)).setCell ⟨bx, 3 + j * 2 + 1, none⟩ (.int .i64 s')) (bl a) (3 + j * 2) = _
    rw [cel_other_set (.inl hax), cel_other_set (.inl hax)]
    exact ct
  have e2 : cel W bx (3 + j * 2 + 1) = some (.int .i64 s') := by
    rw [hW, cel_other_set (.inl (Ne.symm hax)), cel_other_set (.inl (Ne.symm hax))]
    show cel ((wr.setCell ⟨bx, 3 + j * 2, none⟩ (.pointer to)).setCell ⟨bx, 3 + j * 2 + 1, none⟩ (.int .i64 s')) bx (3 + j * 2 + 1) = _
    refine cel_same_set (u := .int .i64 0) ?_
    rw [cel_other_set (.inr (by omega))]
    exact t2
  have e1 : cel W bx (3 + j * 2) = some (.pointer to) := by
    rw [hW, cel_other_set (.inl (Ne.symm hax)), cel_other_set (.inl (Ne.symm hax))]
    show cel ((wr.setCell ⟨bx, 3 + j * 2, none⟩ (.pointer to)).setCell ⟨bx, 3 + j * 2 + 1, none⟩ (.int .i64 s')) bx (3 + j * 2) = _
    rw [cel_other_set (.inr (by omega))]
    exact cel_same_set (u := .pointer none) t1
  have hheap : ∀ q, q ≠ bx → q ≠ bl a → W.heap[q]? = wr.heap[q]? := fun q q1 q2 => by
    rw [hW]
    rw [set_block_other _ _ _ _ q2, set_block_other _ _ _ _ q2]
    show ((wr.setCell ⟨bx, 3 + j * 2, none⟩ (.pointer to)).setCell ⟨bx, 3 + j * 2 + 1, none⟩ (.int .i64 s')).heap[q]? = _
    rw [set_block_other _ _ _ _ q1, set_block_other _ _ _ _ q1]
  have hnode : ∀ b, NodeAt wr b → NodeAt W b := fun b hb => by
    rw [hW]
    have h1 := (hb.set bx (3 + j * 2) (.pointer to)).set bx (3 + j * 2 + 1) (.int .i64 s')
    have h2 : NodeAt (((wr.setCell ⟨bx, 3 + j * 2, none⟩ (.pointer to)).setCell ⟨bx, 3 + j * 2 + 1, none⟩ (.int .i64 s')).drewN k) b := h1
    exact (h2.set _ _ _).set _ _ _
  have hsize : W.heap.size = wr.heap.size := by rw [hW]; simp
  have hfrm : Frm own W0 W := by
    rw [hW]
    have f1 := (hR.frm.set ⟨bx, 3 + j * 2, none⟩ (.pointer to) hox).set ⟨bx, 3 + j * 2 + 1, none⟩ (.int .i64 s') hox
    have f2 : Frm own W0 (((wr.setCell ⟨bx, 3 + j * 2, none⟩ (.pointer to)).setCell ⟨bx, 3 + j * 2 + 1, none⟩ (.int .i64 s')).drewN k) := ⟨f1.os, f1.tape, f1.output, f1.size, f1.block⟩
    exact (f2.set _ _ (fun _ => hob a (Nat.le_trans ha.1 hP))).set _ _ (fun _ => hob a (Nat.le_trans ha.1 hP))
  refine ⟨hfrm, hsize.trans hR.size, fun q q1 q2 => (hheap q q1 (q2 a (Nat.le_trans ha.1 hP))).trans (hR.keep q q1 q2), fun p hp => hnode _ (hR.node p hp), hnode _ hR.nodx, fun b o ho => (far b o (.inr (by omega))).trans (hR.low b o ho), fun h hh => ?_, fun h h1 h2 => ?_⟩
  · rcases Nat.lt_or_ge h j with k1 | k1
    · exact lvl_far (hR.done h k1) fun b o ho => far b o (.inr (by omega))
    · obtain rfl : h = j := by omega
      refine lvl_put_high tl ha hP hjH ct cs e1 e2 (fun q q1 q2 hq => ?_) e3 (by have := ha.1; rw [e4]; congr 2; omega) (fun p hp hpa o _ => far _ _ (.inl ⟨hx p hp, fun e => hpa (hinj p a hp (Nat.le_trans ha.1 hP) e)⟩))
      rw [hs, hq, IntKind.wrap_i64, IntKind.wrap_i64]
      have := ha.1
      omega
  · obtain ⟨l1, l2, l3⟩ := hR.todo h (by omega) h2
    exact ⟨lvl_far l1 fun b o ho => far b o (.inr (by omega)), (far _ _ (.inr (by omega))).trans l2, (far _ _ (.inr (by omega))).trans l3⟩
/-- it does not: the way round it is one longer -/
theorem PutR.lower (hR : PutR W0 own n bl ht P bx H j wr) (hj : j < 32) (hjH : H ≤ j) (hP : P ≤ n) (ha : Lst ht P j a) (hinj : ∀ p q, p ≤ n → q ≤ n → bl p = bl q → p = q) (hx : ∀ p, p ≤ n → bl p ≠ bx) (hob : ∀ p, p ≤ n → own (bl p)) (hn : n ≤ 1099511627776)
    {to : Option Addr} {sp s' : Int} (ct : cel wr (bl a) (3 + j * 2) = some (.pointer to)) (cs : cel wr (bl a) (3 + j * 2 + 1) = some (.int .i64 sp)) (hs : s' = IntKind.i64.wrap (sp + 1)) :
    PutR W0 own n bl ht P bx H (j + 1) (wr.setCell ⟨bl a, 3 + j * 2 + 1, none⟩ (.int .i64 s')) := by
  have hax : bl a ≠ bx := hx a (Nat.le_trans ha.1 hP)
  obtain ⟨tl, t1, t2⟩ := hR.todo j (Nat.le_refl _) hj
  have far : ∀ b o, (b ≠ bl a ∨ o ≠ 3 + j * 2 + 1) → cel (wr.setCell ⟨bl a, 3 + j * 2 + 1, none⟩ (.int .i64 s')) b o = cel wr b o := fun b o h => cel_other_set h
  refine ⟨hR.frm.set _ _ (fun _ => hob a (Nat.le_trans ha.1 hP)), by simpa using hR.size, fun q q1 q2 => (set_block_other _ _ _ _ (q2 a (Nat.le_trans ha.1 hP))).trans (hR.keep q q1 q2), fun p hp => (hR.node p hp).set _ _ _, hR.nodx.set _ _ _, fun b o ho => (far b o (.inr (by omega))).trans (hR.low b o ho), fun h hh => ?_, fun h h1 h2 => ?_⟩
  · rcases Nat.lt_or_ge h j with k1 | k1
    · exact lvl_far (hR.done h k1) fun b o ho => far b o (.inr (by omega))
    · obtain rfl : h = j := by omega
      refine lvl_put_low tl ha hP hjH ct cs ((far _ _ (.inr (by omega))).trans ct) (cel_same_set cs) (fun q q1 q2 hq => ?_) (fun p hp hpa o _ => far _ _ (.inl (fun e => hpa (hinj p a hp (Nat.le_trans ha.1 hP) e))))
      rw [hs, hq, IntKind.wrap_i64]
      have := ha.1
      omega
  · obtain ⟨l1, l2, l3⟩ := hR.todo h (by omega) h2
    exact ⟨lvl_far l1 fun b o ho => far b o (.inr (by omega)), (far _ _ (.inl (Ne.symm hax))).trans l2, (far _ _ (.inl (Ne.symm hax))).trans l3⟩
/-- or nothing follows there -/
theorem PutR.lowest (hR : PutR W0 own n bl ht P bx H j wr) (hj : j < 32) (hjH : H ≤ j) (hP : P ≤ n) (ha : Lst ht P j a)
    {sp : Int} (ct : cel wr (bl a) (3 + j * 2) = some (.pointer none)) (cs : cel wr (bl a) (3 + j * 2 + 1) = some (.int .i64 sp)) : PutR W0 own n bl ht P bx H (j + 1) wr := by
  obtain ⟨tl, t1, t2⟩ := hR.todo j (Nat.le_refl _) hj
  refine ⟨hR.frm, hR.size, hR.keep, hR.node, hR.nodx, hR.low, fun h hh => ?_, fun h h1 h2 => hR.todo h (by omega) h2⟩
  rcases Nat.lt_or_ge h j with k1 | k1
  · exact hR.done h k1
  · obtain rfl : h = j := by omega
    have hno : ∀ q, P < q → q ≤ n → ht q ≤ h := fun q q1 q2 => by
      rcases tl a (Nat.le_trans ha.1 hP) ha.2.1 with ⟨c, b1, b2, b3, b4, b5, b6⟩ | ⟨b1, _⟩
      · rw [ct] at b5; cases b5
      · exact b1 q (by have := ha.1; omega) q2
    have hno2 : sp = ((n + 1 - a : Nat) : Int) → False ∨ True := fun _ => .inr trivial
    clear hno2
    intro p hp hh
    rcases ins_cases (P := P) hp with hpP | rfl | ⟨p, rfl, hPp, hpn⟩
    · rw [ins_le hpP] at hh
      unfold Lnk
      rw [ins_le hpP]
      rcases tl p (by omega) hh with ⟨c, b1, b2, b3, b4, b5, b6⟩ | ⟨b1, b2, b3⟩
      · have hcP : c ≤ P := by
          rcases Nat.lt_or_ge P c with q | q
          · have := hno c q b2; omega
          · exact q
        exact .inl ⟨c, b1, by omega, by rw [ins_le hcP]; exact b3, fun r r1 r2 => by rw [ins_le (by omega)]; exact b4 r r1 r2, by rw [ins_le hcP]; exact b5, b6⟩
      · refine .inr ⟨fun r r1 r2 => ?_, b2, b3⟩
        rcases ins_cases (P := P) (n := n) (p := r) (by omega) with q | q | ⟨r', q1, q2, q3⟩
        · rw [ins_le q]; exact b1 r r1 (by omega)
        · rw [q, ins_at]; exact hjH
        · rw [q1, ins_gt q2]; exact b1 r' (by omega) q3
    · rw [ins_at] at hh; omega
    · rw [ins_gt hPp] at hh
      have := hno p hPp hpn
      omega
theorem PutR.drewN (h : PutR W0 own n bl ht P bx H j wr) (k : Nat) : PutR W0 own n bl ht P bx H j (wr.drewN k) :=
  ⟨⟨h.frm.os, h.frm.tape, h.frm.output, h.frm.size, h.frm.block⟩, h.size, h.keep, h.node, h.nodx, h.low, h.done, h.todo⟩
theorem wrap64_i64 (x : Int) : wrap64 x = IntKind.i64.wrap x := by unfold wrap64; rw [IntKind.wrap_i64]
end
theorem cel_set_far {w : World} {b o c q : Nat} {v : Value} (h : b ≠ c) : cel (w.setCell ⟨c, q, none⟩ v) b o = cel w b o := cel_other_set (.inl h)
/-- all heights are done: the list, with the member in it -/
theorem put_done {W0 wr : World} {own : Nat → Prop} {s seed n : Nat} {bl ht : Nat → Nat} {mem : Nat → Sc} {P bx H : Nat} {c : Sc} (hS : Sk W0 own s seed n bl ht mem) (hP : P ≤ n) (hR : PutR W0 (fun k => own k ∨ k = bx) n bl ht P bx H 32 wr)
    (hsx : s ≠ bx) (hx : ∀ p, p ≤ n → bl p ≠ bx) (hH : 1 ≤ H ∧ H ≤ 32) (c0 : cel W0 bx 0 = some (.string c.1)) (c1 : cel W0 bx 1 = some (.float .f64 c.2)) (c2 : cel W0 bx 2 = some (.int .i64 (H : Int))) (hn : n < 1099511627776) :
    Sk (wr.setCell ⟨s, 2, none⟩ (.int .i64 ((n : Int) + 1))) (fun k => own k ∨ k = bx) s seed (n + 1) (ins P bl bx) (ins P ht H) (ins P mem c) := by
  have htop : wr.heap[s]? = some (.cells #[.int .u64 (seed : Int), .pointer (some ⟨bl 0, 0, none⟩), .int .i64 (n : Int)] 58 (0, 0)) := (hR.keep s hsx (fun p hp => Ne.symm (hS.nes p hp))).trans hS.top
  have hbs : ∀ p, p ≤ n + 1 → ins P bl bx p ≠ s := fun p hp => by
    rcases ins_cases (P := P) hp with k | k | ⟨q, k1, k2, k3⟩
    · rw [ins_le k]; exact hS.nes p (by omega)
    · rw [k, ins_at]; exact Ne.symm hsx
    · rw [k1, ins_gt k2]; exact hS.nes q k3
  have hcel : ∀ b o, b ≠ s → cel (wr.setCell ⟨s, 2, none⟩ (.int .i64 ((n : Int) + 1))) b o = cel wr b o := fun b o h => cel_set_far h
  refine ⟨?_, fun p hp => ?_, fun p hp => ?_, fun p h0 hp => ?_, fun p q hp hq e => ?_, hbs, by rw [ins_le (Nat.zero_le _)]; exact hS.ht0, fun p hp => ?_, fun h hh => ?_, .inl hS.owns, fun p hp => ?_, by omega⟩
  · rw [setCell_eq_setRow wr s 2 _ _ (0, 0) _ htop, setRow_heap _ _ _ _ _ _ htop]
    rw [ins_le (Nat.zero_le _)]
    congr 3
  · have hw : NodeAt wr (ins P bl bx p) := by
      rcases ins_cases (P := P) hp with k | k | ⟨q, k1, k2, k3⟩
      · rw [ins_le k]; exact hR.node p (by omega)
      · rw [k, ins_at]; exact hR.nodx
      · rw [k1, ins_gt k2]; exact hR.node q k3
    exact hw.set _ _ _
  · rw [hcel _ _ (hbs p hp), hR.low _ _ (by omega)]
    rcases ins_cases (P := P) hp with k | k | ⟨q, k1, k2, k3⟩
    · rw [ins_le k, ins_le k]; exact hS.hgt p (by omega)
    · rw [k, ins_at, ins_at]; exact c2
    · rw [k1, ins_gt k2, ins_gt k2]; exact hS.hgt q k3
  · rw [hcel _ _ (hbs p hp), hcel _ _ (hbs p hp), hR.low _ _ (by omega), hR.low _ _ (by omega)]
    rcases ins_cases (P := P) hp with k | k | ⟨q, k1, k2, k3⟩
    · rw [ins_le k, ins_le k]; exact hS.mbr p h0 (by omega)
    · rw [k, ins_at, ins_at]; exact ⟨c0, c1⟩
    · rw [k1, ins_gt k2, ins_gt k2]; exact hS.mbr q (by omega) k3
  · rcases ins_cases (P := P) hp with k | k | ⟨p', k1, k2, k3⟩ <;> rcases ins_cases (P := P) hq with l | l | ⟨q', l1, l2, l3⟩
    · rw [ins_le k, ins_le l] at e; exact hS.inj p q (by omega) (by omega) e
    · rw [ins_le k, l, ins_at] at e; exact absurd e (hx p (by omega))
    · rw [ins_le k, l1, ins_gt l2] at e; have := hS.inj p q' (by omega) l3 e; omega
    · rw [k, ins_at, ins_le l] at e; exact absurd e.symm (hx q (by omega))
    · omega
    · rw [k, ins_at, l1, ins_gt l2] at e; exact absurd e.symm (hx q' l3)
    · rw [k1, ins_gt k2, ins_le l] at e; have := hS.inj p' q k3 (by omega) e; omega
    · rw [k1, ins_gt k2, l, ins_at] at e; exact absurd e (hx p' k3)
    · rw [k1, ins_gt k2, l1, ins_gt l2] at e; have := hS.inj p' q' k3 l3 e; omega
  · rcases ins_cases (P := P) hp with k | k | ⟨q, k1, k2, k3⟩
    · rw [ins_le k]; exact hS.htb p (by omega)
    · rw [k, ins_at]; exact hH
    · rw [k1, ins_gt k2]; exact hS.htb q k3
  · exact (hR.done h hh).same fun p hp o _ => hcel _ _ (hbs p hp)
  · rcases ins_cases (P := P) hp with k | k | ⟨q, k1, k2, k3⟩
    · rw [ins_le k]; exact .inl (hS.ownb p (by omega))
    · rw [k, ins_at]; exact .inr rfl
    · rw [k1, ins_gt k2]; exact .inl (hS.ownb q k3)
end Go.Proofs.YtmlaackdcnpjmaaDoor.Skp
