import Derived.Test.YtpnmhldaaaemeaaMa12
import Derived.Test.YtpnmhldaaaemeaaProg
import Derived.Lib.Hide
import Derived.KernelRfl
import Derived.WalkKit
import Derived.LoopTactic
import Derived.OwnWalk
import Derived.WalkLawsBesides
import Derived.WalkSpells
import Derived.Lib.ConvBytes
import Derived.Shelf.Small.Wraps
import Derived.Shelf.LaysM
import Derived.Shelf.Strconv.Clone
import Derived.Shelf.Strings.Prefix
import Derived.Deep.WholeRow
/- Chapter 24, in plain words: bytes are read as values: a parser for each encoder, and that the two undo one another. -/
namespace Go.Proofs.Ytpnmhldaaaemeaa.Snp

abbrev Ps (α : Type) := List UInt8 → Option (α × List UInt8)
def bytesP (n : Nat) : Ps (List UInt8) := fun s => if n ≤ s.length then some (s.take n, s.drop n) else none
def lowN : List UInt8 → Nat
  | [] => 0
  | b :: l => b.toNat + 256 * lowN l
def numP (k : Nat) : Ps Nat := fun s => (bytesP k s).map fun x => (lowN x.1, x.2)
def textP : Ps ByteArray := fun s => (numP 4 s).bind fun x => (bytesP x.1 x.2).map fun y => (⟨y.1.toArray⟩, y.2)
def thenP {α β : Type} (p : Ps α) (q : Ps β) : Ps (α × β) := fun s => (p s).bind fun x => (q x.2).map fun y => ((x.1, y.1), y.2)
def mapP {α β : Type} (f : α → β) (p : Ps α) : Ps β := fun s => (p s).map fun x => (f x.1, x.2)
def manyP {α : Type} (p : Ps α) : Nat → Ps (List α)
  | 0 => fun s => some ([], s)
  | n + 1 => fun s => (p s).bind fun x => (manyP p n x.2).map fun y => (x.1 :: y.1, y.2)
def listP {α : Type} (p : Ps α) : Ps (List α) := fun s => (numP 4 s).bind fun x => manyP p x.1 x.2
def pairP : Ps Pr := thenP textP textP
def scP : Ps Sc := thenP textP (numP 8)
def idP : Ps (Nat × Nat) := thenP (numP 8) (numP 8)
def entryP : Ps En := mapP (fun x => ⟨x.1.1, x.1.2, x.2⟩) (thenP idP (listP pairP))
def va0 : Va := ⟨0, ⟨#[]⟩, [], [], [], [], [], 0, 0⟩
def valP (k : Nat) : Ps Va := match k with
  | 1 => mapP (fun t => { va0 with kind := 1, text := t }) textP
  | 2 => mapP (fun l => { va0 with kind := 2, list := l }) (listP textP)
  | 3 => mapP (fun l => { va0 with kind := 3, hash := l }) (listP pairP)
  | 4 => mapP (fun l => { va0 with kind := 4, set := l }) (listP textP)
  | 5 => mapP (fun l => { va0 with kind := 5, zset := l }) (listP scP)
  | 6 => mapP (fun x => { va0 with kind := 6, stream := x.2, ms := x.1.1, seq := x.1.2 }) (thenP idP (listP entryP))
  | _ => fun _ => none
def kindP : Ps Va := fun s => (numP 1 s).bind fun x => valP x.1 x.2
/-- a number of 64 bits as an int64 -/
def i64 (n : Nat) : Int := IntKind.i64.wrap (n : Int)
def itemP : Ps It := mapP (fun x => ⟨(x.1.1.1 : Int), x.1.2, x.2, i64 x.1.1.2⟩) (thenP (thenP (thenP (numP 1) (numP 8)) textP) kindP)
def itemsF : Nat → Ps (List It)
  | 0 => fun _ => none
  | n + 1 => fun s => (numP 1 s).bind fun x => if x.1 = 0 then some ([], x.2) else if x.1 = 1 then (itemP x.2).bind fun y => (itemsF n y.2).map fun z => (y.1 :: z.1, z.2) else none

/-- a parser and an encoder that undo one another -/
structure Inv {α : Type} (p : Ps α) (e : α → List UInt8) (ok : α → Prop) : Prop where
  fwd : ∀ s a r, p s = some (a, r) → ok a ∧ s = e a ++ r
  bwd : ∀ a r, ok a → p (e a ++ r) = some (a, r)
theorem lowN_leB (n : Nat) : ∀ k, lowN (leB n k) = n % 256 ^ k := by
  have gen : ∀ (k n : Nat), lowN (leB n k) = n % 256 ^ k := by
    intro k
    induction k with
    | zero => intro n; simp [leB, lowN, Nat.mod_one]
    | succ k ih =>
      intro n
      have h : leB n (k + 1) = UInt8.ofNat n :: leB (n / 256) k := by
        simp only [leB, List.range_succ_eq_map, List.map_cons, List.map_map, Nat.pow_zero, Nat.div_one]
        congr 1
        refine List.map_congr_left fun i _ => ?_
        simp only [Function.comp_def]
        rw [Nat.div_div_eq_div_mul, Nat.pow_succ, Nat.mul_comm]
      rw [h, lowN, ih, show (256 : Nat) ^ (k + 1) = 256 * 256 ^ k by rw [Nat.pow_succ, Nat.mul_comm], Nat.mod_mul]
      rfl
  exact fun k => gen k n
theorem leB_lowN : ∀ (l : List UInt8), leB (lowN l) l.length = l
  | [] => rfl
  | b :: l => by
    have h : ∀ n k, leB n (k + 1) = UInt8.ofNat n :: leB (n / 256) k := by
      intro n k
      simp only [leB, List.range_succ_eq_map, List.map_cons, List.map_map, Nat.pow_zero, Nat.div_one]
      congr 1
      refine List.map_congr_left fun i _ => ?_
      simp only [Function.comp_def]
      rw [Nat.div_div_eq_div_mul, Nat.pow_succ, Nat.mul_comm]
    rw [List.length_cons, h, lowN]
    have h1 : (b.toNat + 256 * lowN l) / 256 = lowN l := by have := b.toNat_lt; omega
    rw [h1, leB_lowN l]
    congr 1
    apply UInt8.toNat_inj.1
    have := b.toNat_lt
    simp only [UInt8.toNat_ofNat']
    omega
theorem lowN_lt : ∀ (l : List UInt8), lowN l < 256 ^ l.length
  | [] => by simp [lowN]
  | b :: l => by
    have := lowN_lt l
    have := b.toNat_lt
    rw [lowN, List.length_cons, Nat.pow_succ]
    omega
theorem bytesP_some {n : Nat} {s a r : List UInt8} (h : bytesP n s = some (a, r)) : a.length = n ∧ s = a ++ r := by
  unfold bytesP at h
  split at h
  · simp only [Option.some.injEq, Prod.mk.injEq] at h
    obtain ⟨rfl, rfl⟩ := h
    exact ⟨by simp; omega, (List.take_append_drop n s).symm⟩
  · cases h
theorem bytesP_app (a r : List UInt8) : bytesP a.length (a ++ r) = some (a, r) := by
  unfold bytesP
  rw [if_pos (by simp), List.take_left, List.drop_left]
theorem inv_num (k : Nat) : Inv (numP k) (fun n => leB n k) (fun n => n < 256 ^ k) where
  fwd s a r h := by
    unfold numP at h
    simp only [Option.map_eq_some_iff, Prod.mk.injEq] at h
    obtain ⟨⟨b, r'⟩, h1, h2, h3⟩ := h
    obtain ⟨h4, h5⟩ := bytesP_some h1
    simp only at h2 h3
    subst h2 h3
    exact ⟨by rw [← h4]; exact lowN_lt b, by rw [← h4, leB_lowN]; exact h5⟩
  bwd a r h := by
    have h1 := bytesP_app (leB a k) r
    rw [leB_len] at h1
    unfold numP
    rw [h1]
    simp only [Option.map_some]
    rw [lowN_leB, Nat.mod_eq_of_lt h]
theorem inv_text : Inv textP textB (fun s => s.size < 4294967296) where
  fwd s a r h := by
    unfold textP at h
    simp only [Option.bind_eq_some_iff, Option.map_eq_some_iff, Prod.mk.injEq] at h
    obtain ⟨⟨n, s1⟩, h1, ⟨b, r'⟩, h2, h3, h4⟩ := h
    obtain ⟨h5, h6⟩ := (inv_num 4).fwd _ _ _ h1
    obtain ⟨h7, h8⟩ := bytesP_some h2
    simp only at h3 h4 h7 h8 h5 h6
    subst h3 h4
    have e : (ByteArray.size ⟨b.toArray⟩) = n := by show b.toArray.size = n; simpa using h7
    refine ⟨by rw [e]; exact h5, ?_⟩
    rw [h6, h8, textB, e]
    simp
  bwd a r h := by
    unfold textP
    have h1 := (inv_num 4).bwd a.size (a.data.toList ++ r) h
    have h2 := bytesP_app a.data.toList r
    rw [Array.length_toList] at h2
    rw [textB, List.append_assoc, h1]
    simp only [Option.bind_some]
    rw [show a.size = a.data.size from rfl, h2]
    rfl
theorem Inv.seq {α β : Type} {p : Ps α} {q : Ps β} {e : α → List UInt8} {f : β → List UInt8} {ok : α → Prop} {ok' : β → Prop} (h : Inv p e ok) (k : Inv q f ok') : Inv (thenP p q) (fun x => e x.1 ++ f x.2) (fun x => ok x.1 ∧ ok' x.2) where
  fwd s a r hh := by
    unfold thenP at hh
    simp only [Option.bind_eq_some_iff, Option.map_eq_some_iff, Prod.mk.injEq] at hh
    obtain ⟨⟨x, s1⟩, h1, ⟨y, s2⟩, h2, h3, h4⟩ := hh
    obtain ⟨h5, h6⟩ := h.fwd _ _ _ h1
    obtain ⟨h7, h8⟩ := k.fwd _ _ _ h2
    subst h3 h4
    have h8' : s1 = f y ++ s2 := h8
    refine ⟨⟨h5, h7⟩, ?_⟩
    show s = (e x ++ f y) ++ s2
    rw [h6, h8', List.append_assoc]
  bwd a r hh := by
    unfold thenP
    rw [List.append_assoc, h.bwd _ _ hh.1]
    simp only [Option.bind_some]
    rw [k.bwd _ _ hh.2]
    rfl
theorem Inv.map {α β : Type} {p : Ps α} {e : α → List UInt8} {ok : α → Prop} (h : Inv p e ok) (f : α → β) (g : β → α) (hg : ∀ a, g (f a) = a) : Inv (mapP f p) (fun b => e (g b)) (fun b => ok (g b) ∧ f (g b) = b) where
  fwd s a r hh := by
    unfold mapP at hh
    simp only [Option.map_eq_some_iff, Prod.mk.injEq] at hh
    obtain ⟨⟨x, s1⟩, h1, h2, h3⟩ := hh
    obtain ⟨h5, h6⟩ := h.fwd _ _ _ h1
    subst h2 h3
    simp only [hg]
    exact ⟨⟨h5, trivial⟩, h6⟩
  bwd a r hh := by
    unfold mapP
    rw [h.bwd _ _ hh.1]
    simp only [Option.map_some, hh.2]
theorem inv_many {α : Type} {p : Ps α} {e : α → List UInt8} {ok : α → Prop} (h : Inv p e ok) : ∀ n, Inv (manyP p n) (fun l => (l.map e).flatten) (fun l => l.length = n ∧ ∀ x ∈ l, ok x)
  | 0 => {
    fwd := fun s a r hh => by
      simp only [manyP, Option.some.injEq, Prod.mk.injEq] at hh
      obtain ⟨rfl, rfl⟩ := hh
      exact ⟨⟨rfl, fun x hx => by cases hx⟩, rfl⟩
    bwd := fun a r hh => by
      obtain rfl := List.eq_nil_of_length_eq_zero hh.1
      rfl }
  | n + 1 => {
    fwd := fun s a r hh => by
      simp only [manyP, Option.bind_eq_some_iff, Option.map_eq_some_iff, Prod.mk.injEq] at hh
      obtain ⟨⟨x, s1⟩, h1, ⟨y, s2⟩, h2, h3, h4⟩ := hh
      obtain ⟨h5, h6⟩ := h.fwd _ _ _ h1
      obtain ⟨⟨h7, h7'⟩, h8⟩ := (inv_many h n).fwd _ _ _ h2
      subst h3 h4
      have h8' : s1 = (y.map e).flatten ++ s2 := h8
      refine ⟨⟨by simp [h7], fun z hz => ?_⟩, by rw [h6, h8']; simp⟩
      rcases List.mem_cons.1 hz with rfl | hz
      · exact h5
      · exact h7' z hz
    bwd := fun a r hh => by
      match a, hh with
      | x :: l, hh =>
        simp only [manyP, List.map_cons, List.flatten_cons, List.append_assoc]
        rw [h.bwd x _ (hh.2 x (by simp))]
        simp only [Option.bind_some]
        rw [(inv_many h n).bwd l r ⟨by simpa using hh.1, fun z hz => hh.2 z (by simp [hz])⟩]
        rfl }
theorem inv_list {α : Type} {p : Ps α} {e : α → List UInt8} {ok : α → Prop} (h : Inv p e ok) : Inv (listP p) (listB e) (fun l => l.length < 4294967296 ∧ ∀ x ∈ l, ok x) where
  fwd s a r hh := by
    simp only [listP, Option.bind_eq_some_iff] at hh
    obtain ⟨⟨n, s1⟩, h1, h2⟩ := hh
    obtain ⟨h5, h6⟩ := (inv_num 4).fwd _ _ _ h1
    obtain ⟨⟨h7, h7'⟩, h8⟩ := (inv_many h n).fwd _ _ _ h2
    simp only at h7 h8 h6
    refine ⟨⟨by rw [h7]; exact h5, h7'⟩, by rw [h6, h8, listB, h7, List.append_assoc]⟩
  bwd a r hh := by
    simp only [listP, listB, List.append_assoc]
    rw [(inv_num 4).bwd a.length _ hh.1]
    exact (inv_many h a.length).bwd a r ⟨rfl, hh.2⟩
abbrev TextOk (s : ByteArray) : Prop := s.size < 4294967296
abbrev PairOk (p : Pr) : Prop := TextOk p.1 ∧ TextOk p.2
abbrev ScOk (p : Sc) : Prop := TextOk p.1 ∧ p.2 < 256 ^ 8
abbrev IdOk (p : Nat × Nat) : Prop := p.1 < 256 ^ 8 ∧ p.2 < 256 ^ 8
theorem inv_pair : Inv pairP pairB PairOk := inv_text.seq inv_text
theorem inv_sc : Inv scP scB ScOk := inv_text.seq (inv_num 8)
theorem inv_id : Inv idP idB IdOk := (inv_num 8).seq (inv_num 8)
def EnOk (e : En) : Prop := IdOk (e.ms, e.seq) ∧ e.pairs.length < 4294967296 ∧ ∀ x ∈ e.pairs, PairOk x
theorem inv_entry : Inv entryP enB EnOk := by
  have h := (inv_id.seq (inv_list inv_pair)).map (fun x => (⟨x.1.1, x.1.2, x.2⟩ : En)) (fun e => ((e.ms, e.seq), e.pairs)) (fun _ => rfl)
  exact ⟨fun s a r hh => let ⟨h1, h2⟩ := h.fwd s a r hh; ⟨h1.1, h2⟩, fun a r hh => h.bwd a r ⟨hh, rfl⟩⟩
/-- a value of a kind has only what that kind has, and all of it can be written -/
def VaOk (v : Va) : Prop := (v.kind = 1 ∧ v = { va0 with kind := 1, text := v.text } ∧ TextOk v.text) ∨
  (v.kind = 2 ∧ v = { va0 with kind := 2, list := v.list } ∧ v.list.length < 4294967296 ∧ ∀ x ∈ v.list, TextOk x) ∨
  (v.kind = 3 ∧ v = { va0 with kind := 3, hash := v.hash } ∧ v.hash.length < 4294967296 ∧ ∀ x ∈ v.hash, PairOk x) ∨
  (v.kind = 4 ∧ v = { va0 with kind := 4, set := v.set } ∧ v.set.length < 4294967296 ∧ ∀ x ∈ v.set, TextOk x) ∨
  (v.kind = 5 ∧ v = { va0 with kind := 5, zset := v.zset } ∧ v.zset.length < 4294967296 ∧ ∀ x ∈ v.zset, ScOk x) ∨
  (v.kind = 6 ∧ v = { va0 with kind := 6, stream := v.stream, ms := v.ms, seq := v.seq } ∧ IdOk (v.ms, v.seq) ∧ v.stream.length < 4294967296 ∧ ∀ x ∈ v.stream, EnOk x)
theorem inv_kind : Inv kindP (fun v => leB v.kind 1 ++ vaB v) VaOk where
  fwd s a r hh := by
    simp only [kindP, Option.bind_eq_some_iff] at hh
    obtain ⟨⟨n, s1⟩, h1, h2⟩ := hh
    obtain ⟨h5, h6⟩ := (inv_num 1).fwd _ _ _ h1
    simp only at h2 h6
    rw [h6]
    unfold valP at h2
    split at h2
    · obtain ⟨h7, h8⟩ := (inv_text.map (fun t => ({ va0 with kind := 1, text := t } : Va)) (fun v => v.text) (fun _ => rfl)).fwd _ _ _ h2
      have hk : a.kind = 1 := by rw [← h7.2]
      exact ⟨.inl ⟨hk, h7.2.symm, h7.1⟩, by simp only [vaB, hk]; rw [h8, List.append_assoc]⟩
    · obtain ⟨h7, h8⟩ := ((inv_list inv_text).map (fun t => ({ va0 with kind := 2, list := t } : Va)) (fun v => v.list) (fun _ => rfl)).fwd _ _ _ h2
      have hk : a.kind = 2 := by rw [← h7.2]
      exact ⟨.inr (.inl ⟨hk, h7.2.symm, h7.1⟩), by simp only [vaB, hk]; rw [h8, List.append_assoc]⟩
    · obtain ⟨h7, h8⟩ := ((inv_list inv_pair).map (fun t => ({ va0 with kind := 3, hash := t } : Va)) (fun v => v.hash) (fun _ => rfl)).fwd _ _ _ h2
      have hk : a.kind = 3 := by rw [← h7.2]
      exact ⟨.inr (.inr (.inl ⟨hk, h7.2.symm, h7.1⟩)), by simp only [vaB, hk]; rw [h8, List.append_assoc]⟩
    · obtain ⟨h7, h8⟩ := ((inv_list inv_text).map (fun t => ({ va0 with kind := 4, set := t } : Va)) (fun v => v.set) (fun _ => rfl)).fwd _ _ _ h2
      have hk : a.kind = 4 := by rw [← h7.2]
      exact ⟨.inr (.inr (.inr (.inl ⟨hk, h7.2.symm, h7.1⟩))), by simp only [vaB, hk]; rw [h8, List.append_assoc]⟩
    · obtain ⟨h7, h8⟩ := ((inv_list inv_sc).map (fun t => ({ va0 with kind := 5, zset := t } : Va)) (fun v => v.zset) (fun _ => rfl)).fwd _ _ _ h2
      have hk : a.kind = 5 := by rw [← h7.2]
      exact ⟨.inr (.inr (.inr (.inr (.inl ⟨hk, h7.2.symm, h7.1⟩)))), by simp only [vaB, hk]; rw [h8, List.append_assoc]⟩
    · obtain ⟨h7, h8⟩ := ((inv_id.seq (inv_list inv_entry)).map (fun x => ({ va0 with kind := 6, stream := x.2, ms := x.1.1, seq := x.1.2 } : Va)) (fun v => ((v.ms, v.seq), v.stream)) (fun _ => rfl)).fwd _ _ _ h2
      have hk : a.kind = 6 := by rw [← h7.2]
      exact ⟨.inr (.inr (.inr (.inr (.inr ⟨hk, h7.2.symm, h7.1.1, h7.1.2⟩)))), by simp only [vaB, hk]; rw [h8]; simp only [List.append_assoc]⟩
    · cases h2
  bwd a r hh := by
    simp only [kindP]
    rw [List.append_assoc]
    rcases hh with ⟨hk, he, h⟩ | ⟨hk, he, h⟩ | ⟨hk, he, h⟩ | ⟨hk, he, h⟩ | ⟨hk, he, h⟩ | ⟨hk, he, h⟩
    · rw [(inv_num 1).bwd a.kind _ (by rw [hk]; decide)]
      simp only [Option.bind_some, vaB, hk, valP]
      exact (inv_text.map (fun t => ({ va0 with kind := 1, text := t } : Va)) (fun v => v.text) (fun _ => rfl)).bwd a r ⟨h, he.symm⟩
    · rw [(inv_num 1).bwd a.kind _ (by rw [hk]; decide)]
      simp only [Option.bind_some, vaB, hk, valP]
      exact ((inv_list inv_text).map (fun t => ({ va0 with kind := 2, list := t } : Va)) (fun v => v.list) (fun _ => rfl)).bwd a r ⟨h, he.symm⟩
    · rw [(inv_num 1).bwd a.kind _ (by rw [hk]; decide)]
      simp only [Option.bind_some, vaB, hk, valP]
      exact ((inv_list inv_pair).map (fun t => ({ va0 with kind := 3, hash := t } : Va)) (fun v => v.hash) (fun _ => rfl)).bwd a r ⟨h, he.symm⟩
    · rw [(inv_num 1).bwd a.kind _ (by rw [hk]; decide)]
      simp only [Option.bind_some, vaB, hk, valP]
      exact ((inv_list inv_text).map (fun t => ({ va0 with kind := 4, set := t } : Va)) (fun v => v.set) (fun _ => rfl)).bwd a r ⟨h, he.symm⟩
    · rw [(inv_num 1).bwd a.kind _ (by rw [hk]; decide)]
      simp only [Option.bind_some, vaB, hk, valP]
      exact ((inv_list inv_sc).map (fun t => ({ va0 with kind := 5, zset := t } : Va)) (fun v => v.zset) (fun _ => rfl)).bwd a r ⟨h, he.symm⟩
    · rw [(inv_num 1).bwd a.kind _ (by rw [hk]; decide)]
      simp only [Option.bind_some, vaB, hk, valP]
      exact ((inv_id.seq (inv_list inv_entry)).map (fun x => ({ va0 with kind := 6, stream := x.2, ms := x.1.1, seq := x.1.2 } : Va)) (fun v => ((v.ms, v.seq), v.stream)) (fun _ => rfl)).bwd a r ⟨⟨h.1, h.2⟩, he.symm⟩
theorem i64_back (n : Nat) (h : n < 256 ^ 8) : (i64 n % 18446744073709551616).toNat = n := by
  unfold i64
  rw [IntKind.wrap_i64]
  have : (256 : Nat) ^ 8 = 18446744073709551616 := by decide
  omega
/-- an item's bytes behind its mark, whatever its deadline is -/
def itE (it : It) : List UInt8 := leB it.db.toNat 1 ++ (leB (it.dead % 18446744073709551616).toNat 8 ++ (textB it.key ++ (leB it.val.kind 1 ++ vaB it.val)))
structure ItOk (it : It) : Prop where
  db : 0 ≤ it.db ∧ it.db < 256
  dead : -9223372036854775808 ≤ it.dead ∧ it.dead ≤ 9223372036854775807
  key : TextOk it.key
  val : VaOk it.val
theorem inv_item : Inv itemP itE ItOk where
  fwd s a r hh := by
    unfold itemP mapP at hh
    simp only [Option.map_eq_some_iff, Prod.mk.injEq] at hh
    obtain ⟨⟨x, s1⟩, h1, h2, h3⟩ := hh
    obtain ⟨⟨⟨⟨h5, h6⟩, h7⟩, h8⟩, h9⟩ := ((((inv_num 1).seq (inv_num 8)).seq inv_text).seq inv_kind).fwd _ _ _ h1
    obtain ⟨⟨⟨d, e⟩, k⟩, v⟩ := x
    simp only at h2 h3 h5 h6 h7 h8 h9
    subst h2 h3
    have hb := i64_back e h6
    refine ⟨⟨⟨by simp, by show (d : Int) < 256; omega⟩, ?_, h7, h8⟩, ?_⟩
    · show -9223372036854775808 ≤ i64 e ∧ i64 e ≤ 9223372036854775807
      unfold i64
      rw [IntKind.wrap_i64]
      omega
    · rw [h9]
      simp only [itE, hb, Int.toNat_natCast, List.append_assoc]
  bwd a r hh := by
    unfold itemP mapP
    have hp : (256 : Nat) ^ 8 = 18446744073709551616 := by decide
    have g1 : a.db.toNat < 256 ^ 1 := by have := hh.db; omega
    have g2 : (a.dead % 18446744073709551616).toNat < 256 ^ 8 := by rw [hp]; omega
    have h := ((((inv_num 1).seq (inv_num 8)).seq inv_text).seq inv_kind).bwd (((a.db.toNat, (a.dead % 18446744073709551616).toNat), a.key), a.val) r ⟨⟨⟨g1, g2⟩, hh.key⟩, hh.val⟩
    simp only [List.append_assoc] at h
    simp only [itE, List.append_assoc]
    rw [h]
    simp only [Option.map_some, Option.some.injEq, Prod.mk.injEq, and_true]
    obtain ⟨d, k, v, t⟩ := a
    have h1 := hh.db
    have h2 := hh.dead
    simp only at h1 h2
    have e1 : ((d.toNat : Nat) : Int) = d := by omega
    have e2 : i64 (t % 18446744073709551616).toNat = t := by
      unfold i64
      rw [IntKind.wrap_i64]
      omega
    simp only [e1, e2]
/-- items' bytes, behind the magic word, up to the mark at their end -/
def itemsE (l : List It) : List UInt8 := (l.map fun it => leB 1 1 ++ itE it).flatten ++ leB 0 1
theorem itemsF_fwd : ∀ n s l r, itemsF n s = some (l, r) → (∀ it ∈ l, ItOk it) ∧ s = itemsE l ++ r
  | 0, s, l, r, h => by cases h
  | n + 1, s, l, r, h => by
    simp only [itemsF, Option.bind_eq_some_iff] at h
    obtain ⟨⟨x, s1⟩, h1, h2⟩ := h
    obtain ⟨h5, h6⟩ := (inv_num 1).fwd _ _ _ h1
    simp only at h2 h5 h6
    split at h2
    · rename_i hx
      simp only [Option.some.injEq, Prod.mk.injEq] at h2
      obtain ⟨rfl, rfl⟩ := h2
      refine ⟨fun _ h => (by cases h), ?_⟩
      rw [h6, hx]
      rfl
    · split at h2
      · rename_i hx
        simp only [Option.bind_eq_some_iff, Option.map_eq_some_iff, Prod.mk.injEq] at h2
        obtain ⟨⟨y, s2⟩, h3, ⟨z, s3⟩, h4, h7, h8⟩ := h2
        obtain ⟨k1, k2⟩ := inv_item.fwd _ _ _ h3
        obtain ⟨k3, k4⟩ := itemsF_fwd n _ _ _ h4
        simp only at h7 h8 k2 k4
        subst h7 h8
        refine ⟨fun it hit => ?_, ?_⟩
        · rcases List.mem_cons.1 hit with rfl | hit
          · exact k1
          · exact k3 it hit
        · rw [h6, hx, k2, k4]
          simp only [itemsE, List.map_cons, List.flatten_cons, List.append_assoc]
      · cases h2
theorem itemsF_bwd : ∀ (l : List It) (n : Nat) (r : List UInt8), l.length < n → (∀ it ∈ l, ItOk it) → itemsF n (itemsE l ++ r) = some (l, r)
  | [], n + 1, r, _, _ => by
    simp only [itemsF, itemsE, List.map_nil, List.flatten_nil, List.nil_append]
    rw [(inv_num 1).bwd 0 r (by decide)]
    rfl
  | it :: l, n + 1, r, hn, h => by
    simp only [itemsF, itemsE, List.map_cons, List.flatten_cons, List.append_assoc]
    rw [(inv_num 1).bwd 1 _ (by decide)]
    simp only [Option.bind_some, if_neg (show ¬ (1 = 0) by decide), if_true]
    rw [inv_item.bwd it _ (h it (by simp))]
    simp only [Option.bind_some]
    have := itemsF_bwd l n r (by simpa using hn) (fun x hx => h x (by simp [hx]))
    simp only [itemsE, List.append_assoc] at this
    rw [this]
    rfl
theorem itemE_len (it : It) : 0 < (leB 1 1 ++ itE it).length := by rw [List.length_append, leB_len]; omega
theorem itemsE_len : ∀ l : List It, l.length < (itemsE l).length
  | [] => by simp [itemsE, leB_len]
  | it :: l => by
    have h1 := itemsE_len l
    have h2 := itemE_len it
    simp only [itemsE, List.map_cons, List.flatten_cons, List.length_append, List.length_cons] at h1 h2 ⊢
    omega
/-- with as many rounds as there are bytes, all is read that can be read -/
theorem itemsF_more {n m : Nat} {s : List UInt8} {l : List It} {r : List UInt8} (h : itemsF n s = some (l, r)) (hm : s.length < m) : itemsF m s = some (l, r) := by
  obtain ⟨h1, h2⟩ := itemsF_fwd n s l r h
  rw [h2]
  refine itemsF_bwd l m r ?_ h1
  have := itemsE_len l
  rw [h2, List.length_append] at hm
  omega
def itemsP : Ps (List It) := fun s => itemsF (s.length + 1) s
theorem itemsP_fwd {s : List UInt8} {l : List It} {r : List UInt8} (h : itemsP s = some (l, r)) : (∀ it ∈ l, ItOk it) ∧ s = itemsE l ++ r := itemsF_fwd _ s l r h
theorem itemsP_bwd {l : List It} (r : List UInt8) (h : ∀ it ∈ l, ItOk it) : itemsP (itemsE l ++ r) = some (l, r) :=
  itemsF_bwd l _ r (by have := itemsE_len l; rw [List.length_append]; omega) h
theorem itemsP_eq (s : List UInt8) : itemsP s = (numP 1 s).bind fun x => if x.1 = 0 then some ([], x.2) else if x.1 = 1 then (itemP x.2).bind fun y => (itemsP y.2).map fun z => (y.1 :: z.1, z.2) else none := by
  show itemsF (s.length + 1) s = _
  simp only [itemsF]
  cases h1 : numP 1 s with
  | none => rfl
  | some x =>
    obtain ⟨x, s1⟩ := x
    obtain ⟨_, h6⟩ := (inv_num 1).fwd _ _ _ h1
    simp only [Option.bind_some]
    by_cases hx : x = 0
    · simp only [if_pos hx]
    · by_cases hx1 : x = 1
      · simp only [if_neg hx, if_pos hx1]
        cases h3 : itemP s1 with
        | none => rfl
        | some y =>
          obtain ⟨y, s2⟩ := y
          obtain ⟨_, k2⟩ := inv_item.fwd _ _ _ h3
          simp only [Option.bind_some]
          have hl : s2.length < s.length := by
            rw [h6, k2]
            simp [leB_len]
            omega
          cases h4 : itemsP s2 with
          | some z =>
            obtain ⟨l, r⟩ := z
            rw [itemsF_more h4 hl]
          | none =>
            cases h5 : itemsF s.length s2 with
            | none => rfl
            | some z =>
              obtain ⟨l, r⟩ := z
              have := itemsF_more h5 (Nat.lt_succ_self _)
              rw [show itemsP s2 = itemsF (s2.length + 1) s2 from rfl] at h4
              rw [h4] at this
              cases this
      · simp only [if_neg hx, if_neg hx1]
/-! ### What Check lets through can be written -/
theorem empty_of {α : Type} {l : List α} (h : l.length = 0) : l = [] := List.eq_nil_of_length_eq_zero h
theorem ris_len {α : Type} {may : α → Prop} {ahead : α → α → Prop} {l : List α} (h : Ris may ahead l) : l.length < 4294967296 ∧ ∀ x ∈ l, may x :=
  ⟨by have := h.1; omega, fun x hx => by obtain ⟨j, hj, rfl⟩ := List.getElem_of_mem hx; exact (h.2 j hj).1⟩
theorem may_ok {s : ByteArray} (h : MayP s) : TextOk s := by unfold MayP at h; show s.size < 4294967296; omega
theorem pow8 : (256 : Nat) ^ 8 = 18446744073709551616 := by decide
theorem va_ok {it : It} (h : FineP it) (hB : VaB it.val) (hI : IdsB it.val) : VaOk it.val := by
  obtain ⟨_, _, _, h4, h5, h6⟩ := h
  obtain ⟨d, ky, v, de⟩ := it
  obtain ⟨k, t, li, ha, se, zs, st, ms, sq⟩ := v
  simp only at h4 hB hI
  obtain ⟨p1, p2, p3, p4, p5, p6⟩ := h5
  obtain ⟨q1, q2, q3, q4, q5, q6⟩ := h6
  simp only at *
  have hk : k = 1 ∨ k = 2 ∨ k = 3 ∨ k = 4 ∨ k = 5 ∨ k = 6 := by omega
  rcases hk with rfl | rfl | rfl | rfl | rfl | rfl
  · obtain rfl := empty_of (p2.resolve_left (by decide))
    obtain rfl := empty_of (p3.resolve_left (by decide))
    obtain rfl := empty_of (p4.resolve_left (by decide))
    obtain rfl := empty_of (p5.resolve_left (by decide))
    obtain ⟨p7, rfl, rfl⟩ := p6.resolve_left (by decide)
    obtain rfl := empty_of p7
    exact .inl ⟨rfl, rfl, may_ok (q1 rfl)⟩
  · obtain rfl := p1.resolve_left (by decide)
    obtain rfl := empty_of (p3.resolve_left (by decide))
    obtain rfl := empty_of (p4.resolve_left (by decide))
    obtain rfl := empty_of (p5.resolve_left (by decide))
    obtain ⟨p7, rfl, rfl⟩ := p6.resolve_left (by decide)
    obtain rfl := empty_of p7
    obtain ⟨r1, r2⟩ := ris_len (q2 rfl).2
    exact .inr (.inl ⟨rfl, rfl, r1, fun x hx => may_ok (r2 x hx)⟩)
  · obtain rfl := p1.resolve_left (by decide)
    obtain rfl := empty_of (p2.resolve_left (by decide))
    obtain rfl := empty_of (p4.resolve_left (by decide))
    obtain rfl := empty_of (p5.resolve_left (by decide))
    obtain ⟨p7, rfl, rfl⟩ := p6.resolve_left (by decide)
    obtain rfl := empty_of p7
    obtain ⟨r1, r2⟩ := ris_len (q3 rfl).2
    exact .inr (.inr (.inl ⟨rfl, rfl, r1, fun x hx => ⟨may_ok (r2 x hx).1, may_ok (r2 x hx).2⟩⟩))
  · obtain rfl := p1.resolve_left (by decide)
    obtain rfl := empty_of (p2.resolve_left (by decide))
    obtain rfl := empty_of (p3.resolve_left (by decide))
    obtain rfl := empty_of (p5.resolve_left (by decide))
    obtain ⟨p7, rfl, rfl⟩ := p6.resolve_left (by decide)
    obtain rfl := empty_of p7
    obtain ⟨r1, r2⟩ := ris_len (q4 rfl).2
    exact .inr (.inr (.inr (.inl ⟨rfl, rfl, r1, fun x hx => may_ok (r2 x hx)⟩)))
  · obtain rfl := p1.resolve_left (by decide)
    obtain rfl := empty_of (p2.resolve_left (by decide))
    obtain rfl := empty_of (p3.resolve_left (by decide))
    obtain rfl := empty_of (p4.resolve_left (by decide))
    obtain ⟨p7, rfl, rfl⟩ := p6.resolve_left (by decide)
    obtain rfl := empty_of p7
    obtain ⟨r1, r2⟩ := ris_len (q5 rfl).2.1
    exact .inr (.inr (.inr (.inr (.inl ⟨rfl, rfl, r1, fun x hx => ⟨may_ok (r2 x hx).1, by rw [pow8]; exact hB.bits x hx⟩⟩))))
  · obtain rfl := p1.resolve_left (by decide)
    obtain rfl := empty_of (p2.resolve_left (by decide))
    obtain rfl := empty_of (p3.resolve_left (by decide))
    obtain rfl := empty_of (p4.resolve_left (by decide))
    obtain rfl := empty_of (p5.resolve_left (by decide))
    obtain ⟨r1, r2⟩ := ris_len (q6 rfl)
    refine .inr (.inr (.inr (.inr (.inr ⟨rfl, rfl, by rw [IdOk, pow8]; exact hB.ids, r1, fun x hx => ?_⟩))))
    obtain ⟨_, _, _, g4⟩ := r2 x hx
    obtain ⟨g5, g6⟩ := ris_len g4
    exact ⟨by rw [IdOk, pow8]; exact hI x hx, g5, fun y hy => ⟨may_ok (g6 y hy).1, may_ok (g6 y hy).2⟩⟩
theorem it_ok {it : It} (h : FineP it) (hB : VaB it.val) (hI : IdsB it.val) : ItOk it :=
  ⟨by have := h.1; omega, by have := h.2.2.1; omega, may_ok h.2.1, va_ok h hB hI⟩
theorem fine_of {l : List It} (h : CheckP l) : ∀ it ∈ l, FineP it := fun it hit => by
  obtain ⟨j, hj, rfl⟩ := List.getElem_of_mem hit
  exact (h j hj hj).1
theorem itB_itE {it : It} (h : 0 ≤ it.dead ∧ it.dead ≤ 9007199254740992) : itB it = leB 1 1 ++ itE it := by
  rw [itB, itE, show (it.dead % 18446744073709551616).toNat = it.dead.toNat by omega]
theorem bodyB_itemsE {l : List It} (h : CheckP l) : bodyB l = magicB ++ itemsE l := by
  rw [bodyB, itemsE, List.map_congr_left (fun it hit => itB_itE (fine_of h it hit).2.2.1)]
end Go.Proofs.Ytpnmhldaaaemeaa.Snp
/- The walk of octets.Low: the number of bytes, the lowest first. -/
namespace Go.Proofs.Ytpnmhldaaaemeaa.Low
open Go.RowKit Go.Proofs.Ytpnmhldaaaemeaa.Uw

/-- a byte as a word -/
def zxw (c : UInt8) : BitVec 64 := c.toBitVec.setWidth 64
/-- the number of bytes, the lowest first -/
def lowN : List UInt8 → BitVec 64
  | [] => 0#64
  | c :: l => (lowN l <<< 8) ||| zxw c

theorem shl8 (P : Program) (t : TypeId) (w : World) (a : BitVec 64) : (binOp .shl t (U a) (.int .u64 8)).run P w = .ok (U (a <<< 8)) w := run_shl P t w 8 .u64 a (by decide)
theorem of_byte (w : World) (c : UInt8) : (convert 5 27 (.int .u8 (c.toNat : Int))).run Try.prog w = .ok (U (zxw c)) w :=
  run_ofByte Try.prog w Try.underlying5 Try.underlying27 c
attribute [local go_sem high] shl8 run_or of_byte

theorem drop_low (bs : List UInt8) (m : Nat) (h : m < bs.length) : lowN (bs.drop m) = (lowN (bs.drop (m + 1)) <<< 8) ||| zxw bs[m] := by
  rw [List.drop_eq_getElem_cons h, lowN]

set_option maxHeartbeats 400000 in
set_option maxRecDepth 100000 in
theorem low_any (g : Nat) (bs : List UInt8) (cap : Nat) (w : World) (hb : bs.length ≤ 281474976710656)
    (hc : ∀ j (h : j < bs.length), w.cell? ⟨g, j, none⟩ = some (.int .u8 (bs[j].toNat : Int))) :
    Calls Try.prog 28 #[.slice (some ⟨g, 0, none⟩) bs.length cap] w fun e w' => e = .returned (U (lowN bs)) ∧ w = w' := by
  have HC := Lib.hid hc
  clear hc
  go_enter Try.func28, Try.ntmps28
  go_wp2
  go_loop [2, 3] (fun v i => ∃ k : Nat, k ≤ bs.length ∧ i = .int .i64 ((k : Int) - 1) ∧ v = U (lowN (bs.drop k))) (fun _ i => ((intOf i) + 1).toNat)
  case atStart => exact ⟨bs.length, by omega, rfl, by rw [List.drop_length]; rfl⟩
  case round =>
    obtain ⟨k, hk, rfl, rfl⟩ := hrel
    cases k with
    | zero =>
      go_wp2
      go_ret
      exact ⟨rfl, rfl⟩
    | succ m =>
      have e : ((m + 1 : Nat) : Int) - 1 = (m : Int) := by omega
      rw [e]
      have hcell := HC.out m (by omega)
      have HD := Lib.hid (drop_low bs m (by omega))
      clear e
      have hlt : (m : Int) < bs.length := by omega
      go_wp2
      exact ⟨⟨m, by omega, rfl, by rw [HD.out]⟩, by simp [intOf]⟩
end Go.Proofs.Ytpnmhldaaaemeaa.Low
/- Chapter 24: a reader: bytes, numbers, texts. -/
namespace Go.Proofs.Ytpnmhldaaaemeaa.Snp
open Go.RowKit Go.Proofs.Ytpnmhldaaaemeaa.Pin

/-- a reader: the block g holds the text s -/
def Rdr (w : World) (g : Nat) (s : List UInt8) : Prop := w.heap[g]? = some (.cells #[.string ⟨s.toArray⟩] 73 (0, 0))
/-- w' is w but for block g and new blocks -/
structure Turns (g : Nat) (w w' : World) : Prop where
  os : w'.os = w.os
  tape : w'.tape = w.tape
  output : w'.output = w.output
  size : w.heap.size ≤ w'.heap.size
  block : ∀ k, k < w.heap.size → k ≠ g → w'.heap[k]? = w.heap[k]?
theorem Turns.refl (g : Nat) (w : World) : Turns g w w := ⟨rfl, rfl, rfl, Nat.le_refl _, fun _ _ _ => rfl⟩
theorem Turns.trans {g : Nat} {a b c : World} (h : Turns g a b) (k : Turns g b c) : Turns g a c :=
  ⟨k.os.trans h.os, k.tape.trans h.tape, k.output.trans h.output, Nat.le_trans h.size k.size, fun i hi hg => (k.block i (Nat.lt_of_lt_of_le hi h.size) hg).trans (h.block i hi hg)⟩
theorem Turns.alloc (g : Nat) (w : World) (o : Obj) : Turns g w (w.alloc o) := ⟨rfl, rfl, rfl, by simp, fun _ hk _ => heap_alloc_old w o hk⟩
theorem Turns.drewN {g : Nat} {w w' : World} (h : Turns g w w') (n : Nat) : Turns g w (w'.drewN n) := ⟨h.os, h.tape, h.output, h.size, h.block⟩
theorem Turns.of_below {g : Nat} {w w' : World} (h : Below w.heap.size w w') : Turns g w w' := ⟨h.os, h.tape, h.output, h.size, fun k hk _ => h.block k hk⟩
theorem Turns.below {g B : Nat} {w w' : World} (h : Turns g w w') (hB : B ≤ g) (hg : g < w.heap.size) : Below B w w' := ⟨h.os, h.tape, h.output, h.size, fun k hk => h.block k (by omega) (by omega)⟩
theorem Rdr.lt {w : World} {g : Nat} {s : List UInt8} (h : Rdr w g s) : g < w.heap.size := (Array.getElem?_eq_some_iff.1 h).1
theorem Rdr.cell {w : World} {g : Nat} {s : List UInt8} (h : Rdr w g s) : w.cell? ⟨g, 0, none⟩ = some (.string ⟨s.toArray⟩) := by rw [Lib.cell_of_heap h]; rfl
theorem Rdr.free {w : World} {g : Nat} {s : List UInt8} (h : Rdr w g s) : w.frozen? ⟨g, 0, none⟩ = false := by simp only [Rdr] at h; simp [World.frozen?, h]
theorem Rdr.alloc {w : World} {g : Nat} {s : List UInt8} (h : Rdr w g s) (o : Obj) : Rdr (w.alloc o) g s := (heap_alloc_old w o h.lt).trans h
theorem Rdr.of_below {w w' : World} {g : Nat} {s : List UInt8} (h : Rdr w g s) (hb : Below w.heap.size w w') : Rdr w' g s := (hb.block g h.lt).trans h
theorem Rdr.set {w : World} {g : Nat} {s : List UInt8} (h : Rdr w g s) (r : List UInt8) : Rdr (w.setCell ⟨g, 0, none⟩ (.string ⟨r.toArray⟩)) g r ∧ Turns g w (w.setCell ⟨g, 0, none⟩ (.string ⟨r.toArray⟩)) := by
  rw [setCell_setRow h]
  exact ⟨setRow_heap w g _ _ _ _ h, ⟨rfl, rfl, rfl, by simp, fun k _ hk => setRow_other w g k _ hk⟩⟩
/-- why a reader leaves -/
abbrev noneV : Value := .iface 69 (.agg #[])
def Got {α : Type} (g : Nat) (w : World) (r : Option (α × List UInt8)) (At : α → Value → World → Prop) (e : Ending) (w' : World) : Prop :=
  match r with
  | some (a, s) => (∃ v, e = .returned v ∧ At a v w') ∧ Rdr w' g s ∧ Turns g w w'
  | none => e = .panicked [{ v := noneV, recovered := false }] ∧ Turns g w w'
abbrev Reads {α : Type} (f : FuncId) (args : Array Value) (w : World) (g : Nat) (s : List UInt8) (p : Ps α) (At : α → Value → World → Prop) : Prop := Calls Try.prog f args w (Got g w (p s) At)
theorem Got.some_of {α : Type} {g : Nat} {w : World} {a : α} {s : List UInt8} {At : α → Value → World → Prop} {e : Ending} {w' : World} (h : Got g w (some (a, s)) At e w') : (∃ v, e = .returned v ∧ At a v w') ∧ Rdr w' g s ∧ Turns g w w' := h
theorem Got.none_of {α : Type} {g : Nat} {w : World} {At : α → Value → World → Prop} {e : Ending} {w' : World} (h : Got g w none At e w') : e = .panicked [{ v := noneV, recovered := false }] ∧ Turns g w w' := h
theorem ext_take (s : List UInt8) (n : Nat) : (⟨s.toArray⟩ : ByteArray).extract 0 n = ⟨(s.take n).toArray⟩ := by
  apply ByteArray.ext
  simp [ByteArray.data_extract]
theorem ext_drop (s : List UInt8) (n : Nat) : (⟨s.toArray⟩ : ByteArray).extract n (ByteArray.size ⟨s.toArray⟩) = ⟨(s.drop n).toArray⟩ := by
  apply ByteArray.ext
  have e : ByteArray.size ⟨s.toArray⟩ = s.length := by show s.toArray.size = _; simp
  rw [e]
  simp [ByteArray.data_extract]
  exact List.take_of_length_le (by simp)
def StrV (l : List UInt8) (v : Value) (_ : World) : Prop := v = .string ⟨l.toArray⟩
set_option maxRecDepth 100000 in
theorem bytes_rd (n : Nat) (s : List UInt8) (g : Nat) (w : World) (h : Rdr w g s) (hs : s.length ≤ 140737488355328) (hn : n < 18446744073709551616) :
    Reads 85 #[.pointer (some ⟨g, 0, none⟩), .int .u64 (n : Int)] w g s (bytesP n) StrV := by
  have hc := h.cell
  have hf := h.free
  have H := Lib.hid h
  obtain ⟨b, hb⟩ : ∃ b : ByteArray, b = ⟨s.toArray⟩ := ⟨_, rfl⟩
  have hsz : b.size = s.length := by rw [hb]; show s.toArray.size = _; simp
  rw [← hb] at hc
  have hw : IntKind.u64.wrap (b.size : Int) = (b.size : Int) := by rw [IntKind.wrap_u64]; omega
  have HN := Lib.hid hn
  have HB := Lib.hid hb
  unfold Reads
  by_cases hle : n ≤ s.length
  · have e1 : bytesP n s = some (s.take n, s.drop n) := by unfold bytesP; rw [if_pos hle]
    rw [e1]
    have hle' : (n : Int) ≤ (b.size : Int) := by omega
    have HS := Lib.hid hsz
    have HSL := Lib.hid hs
    clear e1 hb hsz h hn hs hle
    go_enter Try.func85, Try.ntmps85
    go_wp2_with fail
    go_ret
    refine ⟨⟨_, rfl, ?_⟩, ?_⟩
    · show Value.string _ = Value.string _
      rw [HB.out, ext_take]
    · have hx : b.extract n b.size = ⟨(s.drop n).toArray⟩ := by rw [HB.out]; exact ext_drop s n
      rw [hx]
      exact H.out.set _
  · have e1 : bytesP n s = none := by unfold bytesP; rw [if_neg hle]
    rw [e1]
    have hle' : ¬ (n : Int) ≤ (b.size : Int) := by omega
    clear e1 hb hsz h hn hs hle
    go_enter Try.func85, Try.ntmps85
    go_wp2_with fail
    exact ⟨rfl, rfl, Turns.refl _ _⟩
theorem conv_bytes_of (w : World) (s : ByteArray) : (convert 9 46 (.string s)).run Try.prog w = .ok (.slice (some ⟨w.heap.size, 0, none⟩) s.size (grownCap w s.size 0 5)) (Lib.bytesWorld w 5 s) :=
  Lib.run_convert_string_bytes w 9 46 5 s Try.underlying9 Try.underlying46 Try.underlying5
/-- the world behind '[]byte(s)': one new block with the bytes; what was there stays -/
theorem bytes_world (w : World) (s : ByteArray) : ∃ W C, Lib.bytesWorld w 5 s = W ∧ grownCap w s.size 0 5 = C ∧ (∀ j (h : j < s.data.toList.length), W.cell? ⟨w.heap.size, j, none⟩ = some (.int .u8 (s.data.toList[j].toNat : Int))) ∧
    W.heap.size = w.heap.size + 1 ∧ Below w.heap.size w W := by
  refine ⟨_, _, rfl, rfl, fun j h => ?_, Lib.bytesWorld_size w _ s, ⟨rfl, rfl, rfl, by rw [Lib.bytesWorld_size]; omega, fun k hk => Lib.bytesWorld_at_old w _ s k hk⟩⟩
  rw [Lib.bytesWorld_cell w _ s j (by simpa using h)]
  simp at h
  simp [List.getD, h]
theorem low_same : ∀ (l : List UInt8), l.length ≤ 8 → (Low.lowN l).toNat = lowN l
  | [], _ => rfl
  | b :: l, h => by
    have ih := low_same l (by simp at h; omega)
    have hlt := lowN_lt l
    have hl : l.length ≤ 7 := by simpa using h
    have hp : 256 ^ l.length ≤ 256 ^ 7 := Nat.pow_le_pow_right (by decide) hl
    have hb := b.toNat_lt
    have h7 : (256 : Nat) ^ 7 = 72057594037927936 := by decide
    have e1 : (Low.lowN l).toNat <<< 8 % 2 ^ 64 = (Low.lowN l).toNat * 256 := by
      rw [Nat.shiftLeft_eq]
      omega
    show ((Low.lowN l <<< 8) ||| Low.zxw b).toNat = b.toNat + 256 * lowN l
    rw [BitVec.toNat_or, BitVec.toNat_shiftLeft, e1, Low.zxw, BitVec.toNat_setWidth]
    have e2 : b.toBitVec.toNat % 2 ^ 64 = b.toNat := by
      show b.toNat % 2 ^ 64 = b.toNat
      omega
    rw [e2, ih, Nat.mul_comm (lowN l) 256, ← Nat.two_pow_add_eq_or_of_lt (i := 8) hb (lowN l)]
    omega
def NatV (n : Nat) (v : Value) (_ : World) : Prop := v = .int .u64 (n : Int)
set_option maxRecDepth 100000 in
theorem number_rd (k : Nat) (s : List UInt8) (g : Nat) (w : World) (h : Rdr w g s) (hs : s.length ≤ 140737488355328) (hk : k ≤ 8) :
    Reads 81 #[.pointer (some ⟨g, 0, none⟩), .int .i64 (k : Int)] w g s (numP k) NatV := by
  have hw : IntKind.u64.wrap (k : Int) = (k : Int) := by rw [IntKind.wrap_u64]; omega
  have HR := Lib.hid (bytes_rd k s g w h hs (by omega))
  have HK := Lib.hid hk
  unfold Reads
  clear h hs hk
  go_enter Try.func81, Try.ntmps81
  go_wp2_with fail
  refine HR.out.mono ?_
  intro e w1 hg
  cases hb : bytesP k s with
  | none =>
    rw [hb] at hg
    obtain ⟨rfl, ht⟩ := hg.none_of
    have HT := Lib.hid ht
    have e1 : numP k s = none := by unfold numP; rw [hb]; rfl
    have E1 := Lib.hid e1
    clear hg ht hb e1
    go_wp2_with fail
    exact ⟨rfl, by rw [E1.out]; exact ⟨rfl, HT.out⟩⟩
  | some x =>
    obtain ⟨b, r⟩ := x
    rw [hb] at hg
    obtain ⟨⟨v, rfl, rfl⟩, hr, ht⟩ := hg.some_of
    have HT := Lib.hid ht
    have HRR := Lib.hid hr
    have hbl := (bytesP_some hb).1
    have e1 : numP k s = some (lowN b, r) := by unfold numP; rw [hb]; rfl
    have E1 := Lib.hid e1
    obtain ⟨W, C, hW, hC, hcl, hWs, hWb⟩ := bytes_world w1 ⟨b.toArray⟩
    have hcv := conv_bytes_of w1 ⟨b.toArray⟩
    rw [hW, hC, show ByteArray.size ⟨b.toArray⟩ = b.length from by show b.toArray.size = _; simp] at hcv
    have HLO := Lib.hid (Low.low_any w1.heap.size b C W (by have := HK.out; omega) (fun j hj => by have := hcl j (by simpa using hj); simpa using this))
    have HLS := Lib.hid (low_same b (by have := HK.out; omega))
    have HWB := Lib.hid hWb
    clear hg hr ht hb hbl e1 hcl hWs hWb hW hC
    go_wp2_with fail
    refine HLO.out.mono ?_
    rintro e w3 ⟨rfl, rfl⟩
    go_wp2_with fail
    go_ret
    rw [E1.out]
    exact ⟨⟨_, rfl, by show Uw.U _ = _; unfold Uw.U; rw [HLS.out]⟩, HRR.out.of_below HWB.out, HT.out.trans (Turns.of_below HWB.out)⟩
end Go.Proofs.Ytpnmhldaaaemeaa.Snp
/- The library's contracts at this dump, in plain words (out of the shelf's own tools). -/
namespace Go.Proofs.Ytpnmhldaaaemeaa.Shf
open Go.Shelf Go.Proofs
def lays210_ren : Go.Shelf.Ren := ⟨fun | 210 => 80 | 206 => 103 | n => n, fun | 9 => 9 | 4 => 4 | 3 => 3 | n => n, fun | n => n⟩
theorem lays210 : Go.Proofs.Lays.n210 Try.prog lays210_ren := {
  mixed := by kernel_rfl
  f206 := Try.func103.trans (congrArg some (by kernel_rfl))
  f210 := Try.func80.trans (congrArg some (by kernel_rfl))
  t3 := Try.underlying3
  a3 := Try.isAgg3
  z3 := Try.sizeOf3
  v3 := Try.zeroValue3
  t4 := Try.underlying4
  a4 := Try.isAgg4
  z4 := Try.sizeOf4
  v4 := Try.zeroValue4
  t9 := Try.underlying9
  a9 := Try.isAgg9
  z9 := Try.sizeOf9
  v9 := Try.zeroValue9 }
open Go.RowKit in
theorem stringslite_CutPrefix (s p : ByteArray) (w : World) :
    Calls Try.prog 80 #[.string s, .string p] w fun e w' => e = .returned (.tuple #[.string ⟨(Lib.trimPrefix s.data.toList p.data.toList).toArray⟩, .bool (Lib.hasPrefix s.data.toList p.data.toList)]) ∧ w' = w := Any.stringslite_CutPrefix lays210 s p w
def lays103_ren : Go.Shelf.Ren := ⟨fun | 103 => 25 | 210 => 80 | 206 => 103 | n => n, fun | 9 => 9 | 4 => 4 | 24 => 66 | 3 => 3 | n => n, fun | n => n⟩
theorem lays103 : Go.Proofs.Lays.n103 Try.prog lays103_ren := {
  mixed := by kernel_rfl
  f103 := Try.func25.trans (congrArg some (by kernel_rfl))
  f206 := Try.func103.trans (congrArg some (by kernel_rfl))
  f210 := Try.func80.trans (congrArg some (by kernel_rfl))
  t3 := Try.underlying3
  a3 := Try.isAgg3
  z3 := Try.sizeOf3
  v3 := Try.zeroValue3
  t4 := Try.underlying4
  a4 := Try.isAgg4
  z4 := Try.sizeOf4
  v4 := Try.zeroValue4
  t9 := Try.underlying9
  a9 := Try.isAgg9
  z9 := Try.sizeOf9
  v9 := Try.zeroValue9
  t24 := Try.underlying66
  a24 := Try.isAgg66
  z24 := Try.sizeOf66
  v24 := Try.zeroValue66 }
open Go.RowKit in
theorem strings_CutPrefix (s p : ByteArray) (w : World) :
    Calls Try.prog 25 #[.string s, .string p] w fun e w' => e = .returned (.tuple #[.string ⟨(Lib.trimPrefix s.data.toList p.data.toList).toArray⟩, .bool (Lib.hasPrefix s.data.toList p.data.toList)]) ∧ w' = w := Any.strings_CutPrefix lays103 s p w
def laysM316_ren : Go.Shelf.Ren := ⟨fun | 316 => 108 | n => n, fun | 9 => 9 | 3 => 3 | 4 => 4 | 37 => 46 | 0 => 0 | 127 => 139 | 5 => 5 | n => n, fun | n => n⟩
theorem laysM316 : Go.Proofs.LaysM.n316 Try.prog laysM316_ren := {
  mixed := by kernel_rfl
  f316 := Try.func108.trans (congrArg some (by kernel_rfl))
  t0 := Try.underlying0
  a0 := Try.isAgg0
  z0 := Try.sizeOf0
  v0 := Try.zeroValue0
  t3 := Try.underlying3
  a3 := Try.isAgg3
  z3 := Try.sizeOf3
  v3 := Try.zeroValue3
  t4 := Try.underlying4
  a4 := Try.isAgg4
  z4 := Try.sizeOf4
  v4 := Try.zeroValue4
  t9 := Try.underlying9
  a9 := Try.isAgg9
  z9 := Try.sizeOf9
  v9 := Try.zeroValue9
  t37 := Try.underlying46
  a37 := Try.isAgg46
  z37 := Try.sizeOf46
  v37 := Try.zeroValue46
  t127 := Try.underlying139
  a127 := Try.isAgg139
  z127 := Try.sizeOf139
  v127 := Try.zeroValue139
  t5 := Try.underlying5
  a5 := Try.isAgg5
  z5 := Try.sizeOf5
  v5 := Try.zeroValue5
  i0 := by kernel_rfl
  i3 := by kernel_rfl
  i4 := by kernel_rfl
  i5 := by kernel_rfl
  i9 := by kernel_rfl
  i37 := by kernel_rfl
  i127 := by kernel_rfl }
open Go.RowKit in
theorem stringslite_Clone (s : ByteArray) (w : World) (hlim : s.size ≤ 281474976710656) :
    Calls Try.prog 108 #[.string s] w fun e w' => e = .returned (.string s) ∧ Below w.heap.size w w' := Any.stringslite_Clone laysM316 s w hlim
def lays206_ren : Go.Shelf.Ren := ⟨fun | 206 => 103 | n => n, fun | 9 => 9 | 4 => 4 | 3 => 3 | n => n, fun | n => n⟩
theorem lays206 : Go.Proofs.Lays.n206 Try.prog lays206_ren := {
  mixed := by kernel_rfl
  f206 := Try.func103.trans (congrArg some (by kernel_rfl))
  t3 := Try.underlying3
  a3 := Try.isAgg3
  z3 := Try.sizeOf3
  v3 := Try.zeroValue3
  t4 := Try.underlying4
  a4 := Try.isAgg4
  z4 := Try.sizeOf4
  v4 := Try.zeroValue4
  t9 := Try.underlying9
  a9 := Try.isAgg9
  z9 := Try.sizeOf9
  v9 := Try.zeroValue9 }
open Go.RowKit Go.Lib in
theorem stringslite_HasPrefix (s p : ByteArray) (w : World) :
    Calls Try.prog 103 #[.string s, .string p] w fun e w' => e = .returned (.bool (Lib.hasPrefix s.data.toList p.data.toList)) ∧ w' = w := Any.stringslite_HasPrefix lays206 s p w
end Go.Proofs.Ytpnmhldaaaemeaa.Shf
/- Chapter 24: a reader: texts, pairs, members, identifiers. -/
namespace Go.Proofs.Ytpnmhldaaaemeaa.Snp
open Go.RowKit Go.Proofs.Ytpnmhldaaaemeaa.Pin

def TextV (s : ByteArray) (v : Value) (_ : World) : Prop := v = .string s
theorem bytesP_len {n : Nat} {s a r : List UInt8} (h : bytesP n s = some (a, r)) : r.length ≤ s.length := by
  have := (bytesP_some h).2
  rw [this, List.length_append]
  omega
theorem numP_len {n k : Nat} {s r : List UInt8} (h : numP k s = some (n, r)) : n < 256 ^ k ∧ r.length ≤ s.length := by
  obtain ⟨h1, h2⟩ := (inv_num k).fwd _ _ _ h
  refine ⟨h1, ?_⟩
  rw [h2, List.length_append]
  omega
theorem clone_any (s : ByteArray) (w : World) (h : s.size ≤ 281474976710656) : Calls Try.prog 84 #[.string s] w fun e w' => e = .returned (.string s) ∧ Below w.heap.size w w' := by
  have HC := Lib.hid (Shf.stringslite_Clone s w h)
  clear h
  go_enter Try.func84, Try.ntmps84
  go_wp2_with fail
  refine HC.out.mono ?_
  rintro e w' ⟨rfl, hb⟩
  have HB := Lib.hid hb
  clear hb
  go_wp2_with fail
  go_ret
  exact ⟨rfl, HB.out⟩
set_option maxRecDepth 100000 in
theorem text_rd (s : List UInt8) (g : Nat) (w : World) (h : Rdr w g s) (hs : s.length ≤ 140737488355328) :
    Reads 38 #[.pointer (some ⟨g, 0, none⟩)] w g s textP TextV := by
  have HN := Lib.hid (number_rd 4 s g w h hs (by decide))
  have HS := Lib.hid hs
  unfold Reads
  clear h hs
  go_enter Try.func38, Try.ntmps38
  go_wp2_with fail
  refine HN.out.mono ?_
  intro e w1 hg
  cases hn : numP 4 s with
  | none =>
    rw [hn] at hg
    obtain ⟨rfl, ht⟩ := hg.none_of
    have HT := Lib.hid ht
    have E1 := Lib.hid (show textP s = none by unfold textP; rw [hn]; rfl)
    clear hg ht hn
    go_wp2_with fail
    exact ⟨rfl, by rw [E1.out]; exact ⟨rfl, HT.out⟩⟩
  | some x =>
    obtain ⟨n, r⟩ := x
    rw [hn] at hg
    obtain ⟨⟨v, rfl, rfl⟩, hr, ht⟩ := hg.some_of
    have HT := Lib.hid ht
    obtain ⟨hn1, hn2⟩ := numP_len hn
    have HRB := Lib.hid (bytes_rd n r g w1 hr (by have := HS.out; omega) (Nat.lt_trans hn1 (by decide)))
    have HN1 := Lib.hid hn
    have HL := Lib.hid hn2
    clear hg ht hn hn1 hn2 hr
    go_wp2_with fail
    refine HRB.out.mono ?_
    intro e w2 hg
    cases hb : bytesP n r with
    | none =>
      rw [hb] at hg
      obtain ⟨rfl, ht⟩ := hg.none_of
      have HT2 := Lib.hid (HT.out.trans ht)
      have E1 := Lib.hid (show textP s = none by unfold textP; rw [HN1.out]; show (bytesP n r).map _ = none; rw [hb]; rfl)
      clear hg ht hb
      go_wp2_with fail
      exact ⟨rfl, by rw [E1.out]; exact ⟨rfl, HT2.out⟩⟩
    | some x =>
      obtain ⟨b, r2⟩ := x
      rw [hb] at hg
      obtain ⟨⟨v, rfl, rfl⟩, hr2, ht⟩ := hg.some_of
      have HT2 := Lib.hid (HT.out.trans ht)
      have HR2 := Lib.hid hr2
      have E1 := Lib.hid (show textP s = some (⟨b.toArray⟩, r2) by unfold textP; rw [HN1.out]; show (bytesP n r).map _ = _; rw [hb]; rfl)
      have HC := Lib.hid (clone_any ⟨b.toArray⟩ w2 (by
        show b.toArray.size ≤ _
        have h1 := (bytesP_some hb).2
        have h2 := congrArg List.length h1
        rw [List.length_append] at h2
        have := HL.out
        have := HS.out
        simp only [List.size_toArray]
        omega))
      clear hg ht hb hr2
      go_wp2_with fail
      refine HC.out.mono ?_
      rintro e w3 ⟨rfl, hb3⟩
      have HB3 := Lib.hid hb3
      clear hb3
      go_wp2_with fail
      go_ret
      rw [E1.out]
      exact ⟨⟨_, rfl, rfl⟩, HR2.out.of_below HB3.out, HT2.out.trans (Turns.of_below HB3.out)⟩
/-- the result's own block is filled -/
theorem fill_row {g b : Nat} {w w2 : World} {s : List UInt8} {zs cs : Array Value} {t : TypeId} (ht : Turns g w w2) (hr : Rdr w2 g s) (hb : w2.heap[b]? = some (.cells zs t (0, 0))) (hg : b ≠ g) (hn : w.heap.size ≤ b) :
    (w2.setRow b cs).heap[b]? = some (.cells cs t (0, 0)) ∧ Rdr (w2.setRow b cs) g s ∧ Turns g w (w2.setRow b cs) :=
  ⟨setRow_heap w2 b _ _ _ _ hb, (setRow_other w2 b g _ (Ne.symm hg)).trans hr, ⟨ht.os, ht.tape, ht.output, by simpa using ht.size, fun k hk hkg => (setRow_other w2 b k _ (by omega)).trans (ht.block k hk hkg)⟩⟩
theorem textP_len {a : ByteArray} {s r : List UInt8} (h : textP s = some (a, r)) : r.length + 4 ≤ s.length := by
  have h1 := (inv_text.fwd _ _ _ h).2
  rw [h1, List.length_append, textB_len]
  omega
theorem call_frombits (x : Nat) (w : World) : (callFunc 92 #[.int .u64 (x : Int)]).run Try.prog w = .ok (.value (.float .f64 x)) w := by kernel_rfl
def PairV (p : Pr) (v : Value) (_ : World) : Prop := v = .agg #[.string p.1, .string p.2]
theorem pair_size : (Try.prog.info? 89).map (·.size) = some 2 := by kernel_rfl
set_option maxHeartbeats 1000000 in
set_option maxRecDepth 100000 in
theorem pair_rd (s : List UInt8) (g : Nat) (w : World) (h : Rdr w g s) (hs : s.length ≤ 140737488355328) :
    Reads 55 #[.pointer (some ⟨g, 0, none⟩)] w g s pairP PairV := by
  have HN := Lib.hid (text_rd s g (w.alloc (.cells #[.string ⟨#[]⟩, .string ⟨#[]⟩] 89)) (h.alloc _) hs)
  have HS := Lib.hid hs
  have HG := Lib.hid h.lt
  unfold Reads
  clear h hs
  go_enter Try.func55, Try.ntmps55
  go_wp2_with fail
  refine HN.out.mono ?_
  intro e w1 hg
  cases hn : textP s with
  | none =>
    rw [hn] at hg
    obtain ⟨rfl, ht⟩ := hg.none_of
    have HT := Lib.hid ((Turns.alloc g w _).trans ht)
    have E1 := Lib.hid (show pairP s = none by unfold pairP thenP; rw [hn]; rfl)
    clear hg ht hn
    go_wp2_with fail
    exact ⟨rfl, by rw [E1.out]; exact ⟨rfl, HT.out⟩⟩
  | some x =>
    obtain ⟨a, r⟩ := x
    rw [hn] at hg
    obtain ⟨⟨v, rfl, rfl⟩, hr, ht⟩ := hg.some_of
    have HT := Lib.hid ((Turns.alloc g w _).trans ht)
    have HB := Lib.hid ((ht.block w.heap.size (by simp) (by have := HG.out; omega)).trans (heap_alloc_new w _))
    have HRB := Lib.hid (text_rd r g w1 hr (by have := HS.out; have := textP_len hn; omega))
    have HN1 := Lib.hid hn
    clear hg ht hn hr
    go_wp2_with fail
    refine HRB.out.mono ?_
    intro e w2 hg
    cases hb : textP r with
    | none =>
      rw [hb] at hg
      obtain ⟨rfl, ht⟩ := hg.none_of
      have HT2 := Lib.hid (HT.out.trans ht)
      have E1 := Lib.hid (show pairP s = none by unfold pairP thenP; rw [HN1.out]; show (textP r).map _ = none; rw [hb]; rfl)
      clear hg ht hb
      go_wp2_with fail
      exact ⟨rfl, by rw [E1.out]; exact ⟨rfl, HT2.out⟩⟩
    | some x =>
      obtain ⟨b, r2⟩ := x
      rw [hb] at hg
      obtain ⟨⟨v, rfl, rfl⟩, hr2, ht⟩ := hg.some_of
      have HB2 := Lib.hid ((ht.block w.heap.size (Array.getElem?_eq_some_iff.1 HB.out).1 (by have := HG.out; omega)).trans HB.out)
      have HF := Lib.hid (fill_row (cs := #[.string a, .string b]) (HT.out.trans ht) hr2 HB2.out (by have := HG.out; omega) (Nat.le_refl _))
      have E1 := Lib.hid (show pairP s = some ((a, b), r2) by unfold pairP thenP; rw [HN1.out]; show (textP r).map _ = _; rw [hb]; rfl)
      have HO : Hid ((#[.string a, .string b] : Array Value).all (·.oneCell') = true) := Lib.hid (by simp [Value.oneCell'])
      clear hg ht hb hr2
      go_wp2_with (refine wpList_store_row rfl 89 (.tmp 2) (.tmp 9) (by rfl) w.heap.size #[.string a, .string b] (by rfl) (by rfl) 89 #[.string ⟨#[]⟩, .string ⟨#[]⟩] HB2.out pair_size rfl HO.out ?_)
      refine bodyPost_ret (results_cell_row rfl _ _ w.heap.size 89 #[.string a, .string b] (0, 0) _ rfl HF.out.1 Try.underlying89 rfl pair_size) rfl ?_
      rw [E1.out]
      exact ⟨⟨_, rfl, rfl⟩, HF.out.2⟩
def ScV (p : Sc) (v : Value) (_ : World) : Prop := v = .agg #[.string p.1, .float .f64 p.2]
theorem scored_size : (Try.prog.info? 99).map (·.size) = some 2 := by kernel_rfl
set_option maxHeartbeats 1000000 in
set_option maxRecDepth 100000 in
theorem scored_rd (s : List UInt8) (g : Nat) (w : World) (h : Rdr w g s) (hs : s.length ≤ 140737488355328) :
    Reads 66 #[.pointer (some ⟨g, 0, none⟩)] w g s scP ScV := by
  have HN := Lib.hid (text_rd s g (w.alloc (.cells #[.string ⟨#[]⟩, .float .f64 0] 99)) (h.alloc _) hs)
  have HS := Lib.hid hs
  have HG := Lib.hid h.lt
  unfold Reads
  clear h hs
  go_enter Try.func66, Try.ntmps66
  go_wp2_with fail
  refine HN.out.mono ?_
  intro e w1 hg
  cases hn : textP s with
  | none =>
    rw [hn] at hg
    obtain ⟨rfl, ht⟩ := hg.none_of
    have HT := Lib.hid ((Turns.alloc g w _).trans ht)
    have E1 := Lib.hid (show scP s = none by unfold scP thenP; rw [hn]; rfl)
    clear hg ht hn
    go_wp2_with fail
    exact ⟨rfl, by rw [E1.out]; exact ⟨rfl, HT.out⟩⟩
  | some x =>
    obtain ⟨a, r⟩ := x
    rw [hn] at hg
    obtain ⟨⟨v, rfl, rfl⟩, hr, ht⟩ := hg.some_of
    have HT := Lib.hid ((Turns.alloc g w _).trans ht)
    have HB := Lib.hid ((ht.block w.heap.size (by simp) (by have := HG.out; omega)).trans (heap_alloc_new w _))
    have HRB := Lib.hid (number_rd 8 r g w1 hr (by have := HS.out; have := textP_len hn; omega) (by decide))
    have HN1 := Lib.hid hn
    clear hg ht hn hr
    go_wp2_with fail
    refine HRB.out.mono ?_
    intro e w2 hg
    cases hb : (numP 8) r with
    | none =>
      rw [hb] at hg
      obtain ⟨rfl, ht⟩ := hg.none_of
      have HT2 := Lib.hid (HT.out.trans ht)
      have E1 := Lib.hid (show scP s = none by unfold scP thenP; rw [HN1.out]; show ((numP 8) r).map _ = none; rw [hb]; rfl)
      clear hg ht hb
      go_wp2_with fail
      exact ⟨rfl, by rw [E1.out]; exact ⟨rfl, HT2.out⟩⟩
    | some x =>
      obtain ⟨b, r2⟩ := x
      rw [hb] at hg
      obtain ⟨⟨v, rfl, rfl⟩, hr2, ht⟩ := hg.some_of
      have HB2 := Lib.hid ((ht.block w.heap.size (Array.getElem?_eq_some_iff.1 HB.out).1 (by have := HG.out; omega)).trans HB.out)
      have HF := Lib.hid (fill_row (cs := #[.string a, .float .f64 b]) (HT.out.trans ht) hr2 HB2.out (by have := HG.out; omega) (Nat.le_refl _))
      have E1 := Lib.hid (show scP s = some ((a, b), r2) by unfold scP thenP; rw [HN1.out]; show ((numP 8) r).map _ = _; rw [hb]; rfl)
      have HO : Hid ((#[.string a, .float .f64 b] : Array Value).all (·.oneCell') = true) := Lib.hid (by simp [Value.oneCell'])
      have hcf := call_frombits b
      clear hg ht hb hr2
      go_wp2_with (refine wpList_store_row rfl 99 (.tmp 2) (.tmp 10) (by rfl) w.heap.size #[.string a, .float .f64 b] (by rfl) (by rfl) 99 #[.string ⟨#[]⟩, .float .f64 0] HB2.out scored_size rfl HO.out ?_)
      refine bodyPost_ret (results_cell_row rfl _ _ w.heap.size 99 #[.string a, .float .f64 b] (0, 0) _ rfl HF.out.1 Try.underlying99 rfl scored_size) rfl ?_
      rw [E1.out]
      exact ⟨⟨_, rfl, rfl⟩, HF.out.2⟩
def IdV (p : Nat × Nat) (v : Value) (_ : World) : Prop := v = .agg #[.int .u64 (p.1 : Int), .int .u64 (p.2 : Int)]
theorem id_size : (Try.prog.info? 29).map (·.size) = some 2 := by kernel_rfl
set_option maxHeartbeats 1000000 in
set_option maxRecDepth 100000 in
theorem id_rd (s : List UInt8) (g : Nat) (w : World) (h : Rdr w g s) (hs : s.length ≤ 140737488355328) :
    Reads 73 #[.pointer (some ⟨g, 0, none⟩)] w g s idP IdV := by
  have HN := Lib.hid (number_rd 8 s g (w.alloc (.cells #[.int .u64 0, .int .u64 0] 29)) (h.alloc _) hs (by decide))
  have HS := Lib.hid hs
  have HG := Lib.hid h.lt
  unfold Reads
  clear h hs
  go_enter Try.func73, Try.ntmps73
  go_wp2_with fail
  refine HN.out.mono ?_
  intro e w1 hg
  cases hn : (numP 8) s with
  | none =>
    rw [hn] at hg
    obtain ⟨rfl, ht⟩ := hg.none_of
    have HT := Lib.hid ((Turns.alloc g w _).trans ht)
    have E1 := Lib.hid (show idP s = none by unfold idP thenP; rw [hn]; rfl)
    clear hg ht hn
    go_wp2_with fail
    exact ⟨rfl, by rw [E1.out]; exact ⟨rfl, HT.out⟩⟩
  | some x =>
    obtain ⟨a, r⟩ := x
    rw [hn] at hg
    obtain ⟨⟨v, rfl, rfl⟩, hr, ht⟩ := hg.some_of
    have HT := Lib.hid ((Turns.alloc g w _).trans ht)
    have HB := Lib.hid ((ht.block w.heap.size (by simp) (by have := HG.out; omega)).trans (heap_alloc_new w _))
    have HRB := Lib.hid (number_rd 8 r g w1 hr (by have := HS.out; have := (numP_len hn).2; omega) (by decide))
    have HN1 := Lib.hid hn
    clear hg ht hn hr
    go_wp2_with fail
    refine HRB.out.mono ?_
    intro e w2 hg
    cases hb : (numP 8) r with
    | none =>
      rw [hb] at hg
      obtain ⟨rfl, ht⟩ := hg.none_of
      have HT2 := Lib.hid (HT.out.trans ht)
      have E1 := Lib.hid (show idP s = none by unfold idP thenP; rw [HN1.out]; show ((numP 8) r).map _ = none; rw [hb]; rfl)
      clear hg ht hb
      go_wp2_with fail
      exact ⟨rfl, by rw [E1.out]; exact ⟨rfl, HT2.out⟩⟩
    | some x =>
      obtain ⟨b, r2⟩ := x
      rw [hb] at hg
      obtain ⟨⟨v, rfl, rfl⟩, hr2, ht⟩ := hg.some_of
      have HB2 := Lib.hid ((ht.block w.heap.size (Array.getElem?_eq_some_iff.1 HB.out).1 (by have := HG.out; omega)).trans HB.out)
      have HF := Lib.hid (fill_row (cs := #[.int .u64 (a : Int), .int .u64 (b : Int)]) (HT.out.trans ht) hr2 HB2.out (by have := HG.out; omega) (Nat.le_refl _))
      have E1 := Lib.hid (show idP s = some ((a, b), r2) by unfold idP thenP; rw [HN1.out]; show ((numP 8) r).map _ = _; rw [hb]; rfl)
      have HO : Hid ((#[.int .u64 (a : Int), .int .u64 (b : Int)] : Array Value).all (·.oneCell') = true) := Lib.hid (by simp [Value.oneCell'])
      clear hg ht hb hr2
      go_wp2_with (refine wpList_store_row rfl 29 (.tmp 2) (.tmp 9) (by rfl) w.heap.size #[.int .u64 (a : Int), .int .u64 (b : Int)] (by rfl) (by rfl) 29 #[.int .u64 0, .int .u64 0] HB2.out id_size rfl HO.out ?_)
      refine bodyPost_ret (results_cell_row rfl _ _ w.heap.size 29 #[.int .u64 (a : Int), .int .u64 (b : Int)] (0, 0) _ rfl HF.out.1 Try.underlying29 rfl id_size) rfl ?_
      rw [E1.out]
      exact ⟨⟨_, rfl, rfl⟩, HF.out.2⟩
end Go.Proofs.Ytpnmhldaaaemeaa.Snp
