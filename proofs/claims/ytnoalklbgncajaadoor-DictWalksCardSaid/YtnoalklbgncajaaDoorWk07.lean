/- Chapter 07: a walk of cursors through a dict that changes: plain law. -/
import Derived.Test.YtnoalklbgncajaaDoorRw07
import Derived.Lib.LaidTab
namespace Go.Proofs.YtnoalklbgncajaaDoor.Dct
open Go Go.MapKept Go.RowKit Go.Proofs.YtnoalklbgncajaaDoor.Pin Go.Proofs.YtnoalklbgncajaaDoor.Mps Go.Proofs.YtnoalklbgncajaaDoor.Bok Go.Proofs.YtnoalklbgncajaaDoor.Uw Go.Proofs.YtnoalklbgncajaaDoor.Sip
/-- 2^a is the smaller table's size -/
structure Lst (s : St) (a : Nat) : Prop where
  two : 2 ≤ a
  le : a ≤ 40
  p0 : 2 ^ a ≤ s.p0.length
  t1 : ∀ x, s.t1 = some x → 2 ^ a ≤ x.2.length
  one : 2 ^ a = s.p0.length ∨ ∃ x, s.t1 = some x ∧ 2 ^ a = x.2.length
theorem Lst.only {s : St} {a b : Nat} (h : Lst s a) (h' : Lst s b) : a = b := by
  have key : ∀ a b, Lst s a → Lst s b → 2 ^ a ≤ 2 ^ b := fun a b h h' => by
    rcases h'.one with e | ⟨x, hx, e⟩
    · rw [e]; exact h.p0
    · rw [e]; exact h.t1 x hx
  exact Nat.le_antisymm ((Nat.pow_le_pow_iff_right (a := 2) (by omega)).1 (key a b h h')) ((Nat.pow_le_pow_iff_right (a := 2) (by omega)).1 (key b a h' h))
theorem two64' {a : Nat} (h : a ≤ 40) : 2 ^ a * 2 ^ (64 - a) = 18446744073709551616 := by
  rw [← Nat.pow_add, show a + (64 - a) = 64 by omega]
/-- changes are over -/
def Still (n call at' : Nat) : Prop := 200 ≤ call ∨ n ≤ at'
structure Wlk (s : St) (n call at' left : Nat) (c : BitVec 64) (AL TL E : List ByteArray) : Prop where
  al : ∀ k ∈ AL, KeyIn k s.ents ∧ (Hk s.sd k < R c → k ∈ TL)
  tnd : TL.Nodup
  tE : ∀ k ∈ TL, k ∈ E
  sE : ∀ k, KeyIn k s.ents → k ∈ E
  eLen : E.length ≤ 255 + at'
  atn : at' ≤ n
  cnt : s.n ≤ 255 + at'
  left : left = 0 ∨ (Still n call at' ∧ ∀ a, Lst s a → left * 2 ^ (64 - a) ≤ R c)
theorem Wlk.next {s : St} {n call at' left : Nat} {c : BitVec 64} {AL TL E : List ByteArray} (h : Wlk s n call at' left c AL TL E) (hs : ¬ Still n call at') : left = 0 := h.left.resolve_right (fun k => hs k.1)
theorem keyIn_perm {k : ByteArray} {l l' : Ents} (h : l.Perm l') : KeyIn k l ↔ KeyIn k l' := ⟨fun ⟨v, hv⟩ => ⟨v, h.mem_iff.1 hv⟩, fun ⟨v, hv⟩ => ⟨v, h.mem_iff.2 hv⟩⟩
theorem SetR.key {k : ByteArray} {v : Int} {l l' : Ents} {e : Ending} (h : SetR k v l l' e) : ∀ x, KeyIn x l' ↔ KeyIn x l ∨ x = k := by
  have key : ∀ (x : ByteArray) (v : Int) (rest : Ents), KeyIn x ((k, v) :: rest) ↔ x = k ∨ KeyIn x rest := fun x v rest => by
    constructor
    · rintro ⟨u, hu⟩
      rcases List.mem_cons.1 hu with e | hu
      · injection e with e1 _; exact .inl e1
      · exact .inr ⟨u, hu⟩
    · rintro (rfl | ⟨u, hu⟩)
      · exact ⟨v, List.mem_cons_self⟩
      · exact ⟨u, List.mem_cons_of_mem _ hu⟩
  intro x
  rcases h with ⟨_, v0, rest, h1, h2⟩ | ⟨_, _, h1⟩
  · rw [keyIn_perm h1, keyIn_perm h2, key, key]
    constructor
    · rintro (h | h)
      · exact .inr h
      · exact .inl (.inr h)
    · rintro ((h | h) | h)
      · exact .inl h
      · exact .inr h
      · exact .inl h
  · rw [keyIn_perm h1, key]
    exact or_comm
theorem DelR.key {k : ByteArray} {l l' : Ents} {e : Ending} (h : DelR k l l' e) (hn : (l.map (·.1)).Nodup) : (e = .returned (.bool true) ∨ e = .returned (.bool false)) ∧ ∀ x, KeyIn x l' ↔ KeyIn x l ∧ x ≠ k := by
  rcases h with ⟨h0, v0, h1⟩ | ⟨h0, h2, h3⟩
  · refine ⟨.inl h0, fun x => ?_⟩
    have hn2 := nd_perm h1 hn
    rw [List.map_cons] at hn2
    rw [keyIn_perm h1]
    constructor
    · rintro ⟨u, hu⟩
      exact ⟨⟨u, List.mem_cons_of_mem _ hu⟩, fun e => (List.nodup_cons.1 hn2).1 (List.mem_map.2 ⟨(x, u), hu, e⟩)⟩
    · rintro ⟨⟨u, hu⟩, hne⟩
      rcases List.mem_cons.1 hu with e | hu
      · injection e with e1 _; exact absurd e1 hne
      · exact ⟨u, hu⟩
  · refine ⟨.inr h0, fun x => ?_⟩
    rw [keyIn_perm h3]
    constructor
    · rintro ⟨u, hu⟩
      exact ⟨⟨u, hu⟩, h2 (x, u) hu⟩
    · exact fun h => h.1
theorem SetR.len' {k : ByteArray} {v : Int} {l l' : Ents} {e : Ending} (h : SetR k v l l' e) : l'.length ≤ l.length + 1 ∧ ∃ b, e = .returned (.bool b) := by
  rcases h with ⟨h0, v0, rest, h1, h2⟩ | ⟨h0, _, h1⟩
  · exact ⟨by rw [h1.length_eq, h2.length_eq]; simp, _, h0⟩
  · exact ⟨by rw [h1.length_eq]; simp, _, h0⟩
theorem DelR.len' {k : ByteArray} {l l' : Ents} {e : Ending} (h : DelR k l l' e) : l'.length ≤ l.length := by
  rcases h with ⟨_, v0, h1⟩ | ⟨_, _, h1⟩
  · rw [h1.length_eq]; simp
  · exact Nat.le_of_eq h1.length_eq
section
variable {s s' : St} {n call at' left : Nat} {c : BitVec 64} {AL TL E : List ByteArray}
theorem Wlk.set {k : ByteArray} {v : Int} {e : Ending} (h : Wlk s n call at' left c AL TL E) (h0 : left = 0) (hlt : at' < n) (hsd : s'.sd = s.sd) (hr : SetR k v s.ents s'.ents e) (hI : s.n = s.ents.length) (hI' : s'.n = s'.ents.length) : Wlk s' n call (at' + 1) left c AL TL (k :: E) := by
  refine ⟨fun x hx => ?_, h.tnd, fun x hx => List.mem_cons_of_mem _ (h.tE x hx), fun x hx => ?_, by have := h.eLen; rw [List.length_cons]; omega, hlt, by have h1 := (SetR.len' hr).1; have h2 := h.cnt; omega, .inl h0⟩
  · obtain ⟨h1, h2⟩ := h.al x hx
    exact ⟨((SetR.key hr) x).2 (.inl h1), by rw [hsd]; exact h2⟩
  · rcases ((SetR.key hr) x).1 hx with h1 | rfl
    · exact List.mem_cons_of_mem _ (h.sE x h1)
    · exact List.mem_cons_self
theorem Wlk.del {k : ByteArray} {e : Ending} {AL' : List ByteArray} (h : Wlk s n call at' left c AL TL E) (h0 : left = 0) (hlt : at' < n) (hsd : s'.sd = s.sd) (hr : DelR k s.ents s'.ents e) (hn : (s.ents.map (·.1)).Nodup) (hI : s.n = s.ents.length) (hI' : s'.n = s'.ents.length) (hA : ∀ x ∈ AL', x ∈ AL ∧ x ≠ k) : Wlk s' n call (at' + 1) left c AL' TL E := by
  refine ⟨fun x hx => ?_, h.tnd, h.tE, fun x hx => h.sE x (((DelR.key hr hn).2 x).1 hx).1, by have := h.eLen; omega, hlt, by have h1 := DelR.len' hr; have h2 := h.cnt; omega, .inl h0⟩
  obtain ⟨h3, h4⟩ := hA x hx
  obtain ⟨h1, h2⟩ := h.al x h3
  exact ⟨((DelR.key hr hn).2 x).2 ⟨h1, h4⟩, by rw [hsd]; exact h2⟩
theorem Wlk.stp (h : Wlk s n call at' left c AL TL E) (h0 : left = 0) (hlt : at' < n) (hsd : s'.sd = s.sd) (hp : s'.ents.Perm s.ents) (hn : s'.n = s.n) : Wlk s' n call (at' + 1) left c AL TL E :=
  ⟨fun x hx => by
    obtain ⟨h1, h2⟩ := h.al x hx
    exact ⟨(keyIn_perm hp).2 h1, by rw [hsd]; exact h2⟩, h.tnd, h.tE, fun x hx => h.sE x ((keyIn_perm hp).1 hx), by have := h.eLen; omega, hlt, by rw [hn]; have := h.cnt; omega, .inl h0⟩
/-- a scan, and what it tells taken up -/
theorem Wlk.scan {c' : BitVec 64} {Ls TL' : List ByteArray} (h : Wlk s n call at' left c AL TL E) (hs : ScanR s c c' Ls) (hnd : TL'.Nodup) (hT : ∀ k, k ∈ TL' ↔ k ∈ TL ∨ k ∈ Ls) :
    (c' = 0#64 → ∀ k ∈ AL, k ∈ TL') ∧
    (c' ≠ 0#64 → R c < R c' ∧ (¬ Still n call at' → Wlk s n (call + 1) at' 0 c' AL TL' E ∧ left = 0) ∧
      (Still n call at' → Wlk s n (call + 1) at' (left + 1) c' AL TL' E ∧ left + 1 < s.p0.length ∧ left + 1 < 1099511627776)) := by
  obtain ⟨a, h2, h40, h3, h4, h5, h6, h7, h8⟩ := hs.shape
  have hL : Lst s a := ⟨h2, h40, h3, h4, h5⟩
  have hlt := Eof_lt a (R c)
  have hle := Eof_le a (R c) (by omega) (R_lt c)
  have htold : ∀ k ∈ AL, Hk s.sd k < Eof a (R c) → k ∈ TL' := fun k hk hq => by
    obtain ⟨h9, h10⟩ := h.al k hk
    rcases Nat.lt_or_ge (Hk s.sd k) (R c) with h11 | h11
    · exact (hT k).2 (.inl (h10 h11))
    · exact (hT k).2 (.inr (h8 k h9 h11 hq))
  rcases Nat.lt_or_ge (Eof a (R c)) 18446744073709551616 with he | he
  · rw [Nat.mod_eq_of_lt he] at h6
    have hne : c' ≠ 0#64 := fun e => by
      have := R_zero.2 e
      omega
    refine ⟨fun e => absurd e hne, fun _ => ⟨by omega, fun hst => ?_, fun hst => ?_⟩⟩
    · have hz := h.next hst
      refine ⟨⟨fun k hk => ⟨(h.al k hk).1, fun hq => htold k hk (by rw [← h6]; exact hq)⟩, hnd, fun k hk => ?_, h.sE, h.eLen, h.atn, h.cnt, .inl rfl⟩, hz⟩
      rcases (hT k).1 hk with h9 | h9
      · exact h.tE k h9
      · exact h.sE k (h7 k h9).1
    · have hk0 : 0 < 2 ^ (64 - a) := Nat.two_pow_pos _
      have hE : Eof a (R c) = (R c / 2 ^ (64 - a) + 1) * 2 ^ (64 - a) := rfl
      have hl1 : (left + 1) * 2 ^ (64 - a) ≤ R c' := by
        rw [h6, hE]
        refine Nat.mul_le_mul_right _ (Nat.succ_le_succ ?_)
        rcases h.left with h9 | ⟨_, h9⟩
        · rw [h9]; exact Nat.zero_le _
        · rw [Nat.le_div_iff_mul_le hk0]
          exact h9 a hL
      have hb : left + 1 < 2 ^ a := by
        have h9 := R_lt c'
        have h10 := two64' h40
        refine Nat.lt_of_mul_lt_mul_right (a := 2 ^ (64 - a)) ?_
        omega
      have h240 : 2 ^ a ≤ 1099511627776 := Nat.le_trans (Nat.pow_le_pow_right (by decide) h40) (Nat.le_refl (2 ^ 40))
      refine ⟨⟨fun k hk => ⟨(h.al k hk).1, fun hq => htold k hk (by rw [← h6]; exact hq)⟩, hnd, fun k hk => ?_, h.sE, h.eLen, h.atn, h.cnt, .inr ⟨?_, fun b hb => ?_⟩⟩, by omega, by omega⟩
      · rcases (hT k).1 hk with h9 | h9
        · exact h.tE k h9
        · exact h.sE k (h7 k h9).1
      · rcases hst with h9 | h9
        · exact .inl (by omega)
        · exact .inr h9
      · rw [hb.only hL]
        exact hl1
  · have heq : Eof a (R c) = 18446744073709551616 := Nat.le_antisymm hle he
    rw [heq, Nat.mod_self] at h6
    have hz : c' = 0#64 := R_zero.1 h6
    exact ⟨fun _ k hk => htold k hk (by rw [heq]; exact Hk_lt _ _), fun e => absurd hz e⟩
end
theorem tab_below {P : Program} {w w' : World} {name : String} {k : IntKind} {zs : List Int} (h : Lib.TabIs P w name k zs) (hb : Below w.heap.size w w') : Lib.TabIs P w' name k zs := by
  unfold Lib.TabIs World.var? at h ⊢
  cases hg : P.globalNamed name with
  | none => rw [hg] at h; cases h
  | some g =>
    rw [hg] at h
    simp only [Option.bind_some] at h ⊢
    cases hh : w.heap[g]? with
    | none => rw [hh] at h; cases h
    | some o =>
      have hl : g < w.heap.size := (Array.getElem?_eq_some_iff.1 hh).1
      rw [hb.block g hl]
      exact h
end Go.Proofs.YtnoalklbgncajaaDoor.Dct
