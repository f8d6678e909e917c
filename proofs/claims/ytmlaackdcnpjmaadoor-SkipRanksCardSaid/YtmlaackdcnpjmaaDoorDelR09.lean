/- Chapter 09: what stands in memory while a node is taken out: height by height. -/
import Derived.Test.YtmlaackdcnpjmaaDoorPutR09
namespace Go.Proofs.YtmlaackdcnpjmaaDoor.Skp
open Go Go.RowKit Go.Proofs.YtmlaackdcnpjmaaDoor.Pin Go.Proofs.YtmlaackdcnpjmaaDoor.Flt
/-- nothing follows behind P on this height -/
theorem lvl_del_lowest {c : Nat → Nat → Option Value} {n : Nat} {bl ht : Nat → Nat} {h P a : Nat} (hl : Lvl c (n + 1) bl ht h) (ha : Lst ht P h a) (hP : P ≤ n) (ct : c (bl a) (3 + h * 2) = some (.pointer none)) : Lvl c n (del P bl) (del P ht) h := by
  have hno : ∀ q, P < q → q ≤ n + 1 → ht q ≤ h := fun q q1 q2 => by
    rcases hl a (by have := ha.1; omega) ha.2.1 with ⟨c', b1, b2, b3, b4, b5, b6⟩ | ⟨b1, _⟩
    · rw [ct] at b5; cases b5
    · exact b1 q (by have := ha.1; omega) q2
  intro p hp hh
  rcases Nat.lt_or_ge P p with hPp | hpP
  · rw [del_gt hPp] at hh
    have := hno (p + 1) (by omega) (by omega)
    omega
  · rw [del_le hpP] at hh
    unfold Lnk
    rw [del_le hpP]
    rcases hl p (by omega) hh with ⟨q, b1, b2, b3, b4, b5, b6⟩ | ⟨b1, b2, b3⟩
    · have hqP : q ≤ P := by
        rcases Nat.lt_or_ge P q with k | k
        · have := hno q k b2; omega
        · exact k
      exact .inl ⟨q, b1, by omega, by rw [del_le hqP]; exact b3, fun r r1 r2 => by rw [del_le (by omega)]; exact b4 r r1 r2, by rw [del_le hqP]; exact b5, b6⟩
    · refine .inr ⟨fun r r1 r2 => ?_, b2, b3⟩
      rcases Nat.lt_or_ge P r with k | k
      · rw [del_gt k]; exact b1 _ (by omega) (by omega)
      · rw [del_le k]; exact b1 r r1 (by omega)
structure DelR (W0 : World) (own : Nat → Prop) (n : Nat) (bl ht : Nat → Nat) (P j : Nat) (wr : World) : Prop where
  frm : Frm own W0 wr
  size : wr.heap.size = W0.heap.size
  keep : ∀ k, (∀ p, p ≤ n + 1 → k ≠ bl p) → wr.heap[k]? = W0.heap[k]?
  node : ∀ p, p ≤ n + 1 → NodeAt wr (bl p)
  low : ∀ b o, o < 3 → cel wr b o = cel W0 b o
  done : ∀ h, h < j → Lvl (cel wr) n (del P bl) (del P ht) h
  todo : ∀ h, j ≤ h → h < 32 → Lvl (cel wr) (n + 1) bl ht h
section
variable {W0 : World} {own : Nat → Prop} {n : Nat} {bl ht : Nat → Nat} {P j a : Nat} {wr : World}
theorem DelR.drewN (h : DelR W0 own n bl ht P j wr) (k : Nat) : DelR W0 own n bl ht P j (wr.drewN k) :=
  ⟨⟨h.frm.os, h.frm.tape, h.frm.output, h.frm.size, h.frm.block⟩, h.size, h.keep, h.node, h.low, h.done, h.todo⟩
theorem DelR.high (hR : DelR W0 own n bl ht P j wr) (hjH : j < ht (P + 1)) (hP : P ≤ n) (ha : Lst ht P j a) (hj : j < 32) (hinj : ∀ p q, p ≤ n + 1 → q ≤ n + 1 → bl p = bl q → p = q) (hob : ∀ p, p ≤ n + 1 → own (bl p)) (hn : n ≤ 1099511627776)
    {to tx : Option Addr} {sp sx s' : Int} (ct : cel wr (bl a) (3 + j * 2) = some (.pointer to)) (cs : cel wr (bl a) (3 + j * 2 + 1) = some (.int .i64 sp)) (xt : cel wr (bl (P + 1)) (3 + j * 2) = some (.pointer tx)) (xs : cel wr (bl (P + 1)) (3 + j * 2 + 1) = some (.int .i64 sx)) (hs : s' = IntKind.i64.wrap (IntKind.i64.wrap (sp + sx) - 1)) :
    DelR W0 own n bl ht P (j + 1) ((wr.setCell ⟨bl a, 3 + j * 2, none⟩ (.pointer tx)).setCell ⟨bl a, 3 + j * 2 + 1, none⟩ (.int .i64 s')) := by
  have han : a ≤ n + 1 := by have := ha.1; omega
  have far : ∀ b o, (b ≠ bl a ∨ (o ≠ 3 + j * 2 ∧ o ≠ 3 + j * 2 + 1)) → cel ((wr.setCell ⟨bl a, 3 + j * 2, none⟩ (.pointer tx)).setCell ⟨bl a, 3 + j * 2 + 1, none⟩ (.int .i64 s')) b o = cel wr b o := fun b o h => by
    rw [cel_other_set (by rcases h with h | h; exact .inl h; exact .inr h.2), cel_other_set (by rcases h with h | h; exact .inl h; exact .inr h.1)]
  have e4 : cel ((wr.setCell ⟨bl a, 3 + j * 2, none⟩ (.pointer tx)).setCell ⟨bl a, 3 + j * 2 + 1, none⟩ (.int .i64 s')) (bl a) (3 + j * 2 + 1) = some (.int .i64 s') := by
    refine cel_same_set (u := .int .i64 sp) ?_
    rw [cel_other_set (.inr (by omega))]
    exact cs
  have e3 : cel ((wr.setCell ⟨bl a, 3 + j * 2, none⟩ (.pointer tx)).setCell ⟨bl a, 3 + j * 2 + 1, none⟩ (.int .i64 s')) (bl a) (3 + j * 2) = some (.pointer tx) := by
    rw [cel_other_set (.inr (by omega))]
    exact cel_same_set ct
  refine ⟨(hR.frm.set _ _ (fun _ => hob a han)).set _ _ (fun _ => hob a han), by simpa using hR.size, fun q hq => ((set_block_other _ _ _ _ (hq a han)).trans (set_block_other _ _ _ _ (hq a han))).trans (hR.keep q hq), fun p hp => ((hR.node p hp).set _ _ _).set _ _ _, fun b o ho => (far b o (.inr (by omega))).trans (hR.low b o ho), fun h hh => ?_, fun h h1 h2 => lvl_far (hR.todo h (by omega) h2) fun b o ho => far b o (.inr (by omega))⟩
  rcases Nat.lt_or_ge h j with k1 | k1
  · exact lvl_far (hR.done h k1) fun b o ho => far b o (.inr (by omega))
  · obtain rfl : h = j := by omega
    refine lvl_del_high (hR.todo h (Nat.le_refl _) hj) ha hP hjH cs xt xs e3 e4 (fun q q1 q2 hs1 hs2 => ?_) (fun p hp hpa o _ => far _ _ (.inl (fun e => hpa (hinj p a hp han e))))
    have h3 := ha.1
    have h4 : ((P + 1 - a : Nat) : Int) + ((q - (P + 1) : Nat) : Int) = ((q - a : Nat) : Int) := by omega
    have h5 : IntKind.i64.wrap ((q - a : Nat) : Int) = ((q - a : Nat) : Int) := by rw [IntKind.wrap_i64]; omega
    have h6 : IntKind.i64.wrap (((q - a : Nat) : Int) - 1) = ((q - 1 - a : Nat) : Int) := by rw [IntKind.wrap_i64]; omega
    rw [hs, hs1, hs2, h4, h5, h6]
theorem DelR.lower (hR : DelR W0 own n bl ht P j wr) (hjH : ht (P + 1) ≤ j) (hP : P ≤ n) (ha : Lst ht P j a) (hj : j < 32) (hinj : ∀ p q, p ≤ n + 1 → q ≤ n + 1 → bl p = bl q → p = q) (hob : ∀ p, p ≤ n + 1 → own (bl p)) (hn : n ≤ 1099511627776)
    {to : Option Addr} {sp s' : Int} (ct : cel wr (bl a) (3 + j * 2) = some (.pointer to)) (cs : cel wr (bl a) (3 + j * 2 + 1) = some (.int .i64 sp)) (hs : s' = IntKind.i64.wrap (sp - 1)) :
    DelR W0 own n bl ht P (j + 1) (wr.setCell ⟨bl a, 3 + j * 2 + 1, none⟩ (.int .i64 s')) := by
  have han : a ≤ n + 1 := by have := ha.1; omega
  have far : ∀ b o, (b ≠ bl a ∨ o ≠ 3 + j * 2 + 1) → cel (wr.setCell ⟨bl a, 3 + j * 2 + 1, none⟩ (.int .i64 s')) b o = cel wr b o := fun b o h => cel_other_set h
  refine ⟨hR.frm.set _ _ (fun _ => hob a han), by simpa using hR.size, fun q hq => (set_block_other _ _ _ _ (hq a han)).trans (hR.keep q hq), fun p hp => (hR.node p hp).set _ _ _, fun b o ho => (far b o (.inr (by omega))).trans (hR.low b o ho), fun h hh => ?_, fun h h1 h2 => lvl_far (hR.todo h (by omega) h2) fun b o ho => far b o (.inr (by omega))⟩
  rcases Nat.lt_or_ge h j with k1 | k1
  · exact lvl_far (hR.done h k1) fun b o ho => far b o (.inr (by omega))
  · obtain rfl : h = j := by omega
    refine lvl_del_low (hR.todo h (Nat.le_refl _) hj) ha hP hjH ct cs ((far _ _ (.inr (by omega))).trans ct) (cel_same_set cs) (fun q q1 q2 hq => ?_) (fun p hp hpa o _ => far _ _ (.inl (fun e => hpa (hinj p a hp han e))))
    rw [hs, hq, IntKind.wrap_i64]
    have := ha.1
    omega
theorem DelR.lowest (hR : DelR W0 own n bl ht P j wr) (hP : P ≤ n) (ha : Lst ht P j a) (hj : j < 32) (ct : cel wr (bl a) (3 + j * 2) = some (.pointer none)) : DelR W0 own n bl ht P (j + 1) wr := by
  refine ⟨hR.frm, hR.size, hR.keep, hR.node, hR.low, fun h hh => ?_, fun h h1 h2 => hR.todo h (by omega) h2⟩
  rcases Nat.lt_or_ge h j with k1 | k1
  · exact hR.done h k1
  · obtain rfl : h = j := by omega
    exact lvl_del_lowest (hR.todo h (Nat.le_refl _) hj) ha hP ct
end
theorem del_lt {P n p : Nat} (hp : p ≤ n) (_hP : P ≤ n) : ∃ q, q ≤ n + 1 ∧ q ≠ P + 1 ∧ (∀ {α : Type} (f : Nat → α), del P f p = f q) ∧ (p ≤ P ↔ q ≤ P) ∧ (0 < p → 0 < q) ∧ (p ≤ P → q = p) ∧ (P < p → q = p + 1) := by
  rcases Nat.lt_or_ge P p with h | h
  · exact ⟨p + 1, by omega, by omega, fun f => del_gt h, by omega, by omega, by omega, by omega⟩
  · exact ⟨p, by omega, by omega, fun f => del_le h, by omega, by omega, by omega, by omega⟩
/-- all heights are done: the list, without the member at P + 1 -/
theorem del_done {W0 wr : World} {own : Nat → Prop} {s seed n : Nat} {bl ht : Nat → Nat} {mem : Nat → Sc} {P : Nat} (hS : Sk W0 own s seed (n + 1) bl ht mem) (hP : P ≤ n) (hR : DelR W0 own n bl ht P 32 wr) :
    Sk (wr.setCell ⟨s, 2, none⟩ (.int .i64 (n : Int))) own s seed n (del P bl) (del P ht) (del P mem) := by
  have htop : wr.heap[s]? = some (.cells #[.int .u64 (seed : Int), .pointer (some ⟨bl 0, 0, none⟩), .int .i64 ((n + 1 : Nat) : Int)] 58 (0, 0)) := (hR.keep s (fun p hp => Ne.symm (hS.nes p hp))).trans hS.top
  have hbs : ∀ p, p ≤ n → del P bl p ≠ s := fun p hp => by
    obtain ⟨q, q1, q2, q3, _⟩ := del_lt hp hP
    rw [q3]; exact hS.nes q q1
  have hcel : ∀ b o, b ≠ s → cel (wr.setCell ⟨s, 2, none⟩ (.int .i64 (n : Int))) b o = cel wr b o := fun b o h => cel_set_far h
  refine ⟨?_, fun p hp => ?_, fun p hp => ?_, fun p h0 hp => ?_, fun p q hp hq e => ?_, hbs, by rw [del_le (Nat.zero_le _)]; exact hS.ht0, fun p hp => ?_, fun h hh => ?_, hS.owns, fun p hp => ?_, by have := hS.few; omega⟩
  · rw [setCell_eq_setRow wr s 2 _ _ (0, 0) _ htop, setRow_heap _ _ _ _ _ _ htop]
    rw [del_le (Nat.zero_le _)]
    rfl
  · obtain ⟨q, q1, q2, q3, _⟩ := del_lt hp hP
    rw [q3]
    exact (hR.node q q1).set _ _ _
  · rw [hcel _ _ (hbs p hp), hR.low _ _ (by omega)]
    obtain ⟨q, q1, q2, q3, _⟩ := del_lt hp hP
    rw [q3, q3]
    exact hS.hgt q q1
  · rw [hcel _ _ (hbs p hp), hcel _ _ (hbs p hp), hR.low _ _ (by omega), hR.low _ _ (by omega)]
    obtain ⟨q, q1, q2, q3, _, q5, _⟩ := del_lt hp hP
    rw [q3, q3]
    exact hS.mbr q (q5 h0) q1
  · obtain ⟨p', p1, p2, p3, p4, p5, p6, p7⟩ := del_lt hp hP
    obtain ⟨q', q1, q2, q3, q4, q5, q6, q7⟩ := del_lt hq hP
    rw [p3, q3] at e
    have := hS.inj p' q' p1 q1 e
    rcases Nat.lt_or_ge P p with k | k <;> rcases Nat.lt_or_ge P q with m | m
    · have := p7 k; have := q7 m; omega
    · have := p7 k; have := q6 m; omega
    · have := p6 k; have := q7 m; omega
    · have := p6 k; have := q6 m; omega
  · obtain ⟨q, q1, q2, q3, _⟩ := del_lt hp hP
    rw [q3]
    exact hS.htb q q1
  · exact (hR.done h hh).same fun p hp o _ => hcel _ _ (hbs p hp)
  · obtain ⟨q, q1, q2, q3, _⟩ := del_lt hp hP
    rw [q3]
    exact hS.ownb q q1
end Go.Proofs.YtmlaackdcnpjmaaDoor.Skp
