/- Chapter 24's data: items plainly, and how they lie in memory. -/
import Derived.Test.YtpnmhldaaaemeaaPin2
import Derived.Lib.Hide
import Derived.Deep.MidRow
import Derived.Below
import Derived.Test.YtpnmhldaaaemeaaProg
import Derived.WalkKit
import Derived.KernelRfl
namespace Go.Proofs.Ytpnmhldaaaemeaa.Snp
open Go.RowKit Go.Proofs.Ytpnmhldaaaemeaa.Pin

abbrev Pr := ByteArray × ByteArray
abbrev Sc := ByteArray × Nat
structure En where
  ms : Nat
  seq : Nat
  pairs : List Pr
structure Va where
  kind : Nat
  text : ByteArray
  list : List ByteArray
  hash : List Pr
  set : List ByteArray
  zset : List Sc
  stream : List En
  ms : Nat
  seq : Nat
structure It where
  db : Int
  key : ByteArray
  val : Va
  dead : Int
instance : Inhabited En := ⟨⟨0, 0, []⟩⟩

def TextsAt (w : World) (B : Nat) (v : Value) (l : List ByteArray) : Prop :=
  ∃ A c, v = .slice A l.length c ∧ (0 < l.length → ∃ r o, A = some ⟨r, o, none⟩ ∧ r < B ∧ ∀ j (h : j < l.length), w.cell? ⟨r, o + j, none⟩ = some (.string l[j]))
def PairsAt (w : World) (B : Nat) (v : Value) (l : List Pr) : Prop :=
  ∃ A c, v = .slice A l.length c ∧ (0 < l.length → ∃ r o, A = some ⟨r, o, none⟩ ∧ r < B ∧ ∀ j (h : j < l.length), w.cell? ⟨r, o + j * 2, none⟩ = some (.string l[j].1) ∧ w.cell? ⟨r, o + j * 2 + 1, none⟩ = some (.string l[j].2))
def ScoredsAt (w : World) (B : Nat) (v : Value) (l : List Sc) : Prop :=
  ∃ A c, v = .slice A l.length c ∧ (0 < l.length → ∃ r o, A = some ⟨r, o, none⟩ ∧ r < B ∧ ∀ j (h : j < l.length), w.cell? ⟨r, o + j * 2, none⟩ = some (.string l[j].1) ∧ w.cell? ⟨r, o + j * 2 + 1, none⟩ = some (.float .f64 l[j].2))
def EntriesAt (w : World) (B : Nat) (v : Value) (l : List En) : Prop :=
  ∃ A c, v = .slice A l.length c ∧ (0 < l.length → ∃ r o, A = some ⟨r, o, none⟩ ∧ r < B ∧ ∀ j (h : j < l.length), w.cell? ⟨r, o + j * 3, none⟩ = some (.int .u64 (l[j].ms : Int)) ∧ w.cell? ⟨r, o + j * 3 + 1, none⟩ = some (.int .u64 (l[j].seq : Int)) ∧
    ∃ pv, w.cell? ⟨r, o + j * 3 + 2, none⟩ = some pv ∧ PairsAt w B pv l[j].pairs)
/-- a value's nine cells -/
structure Cl where
  lv : Value
  hv : Value
  sv : Value
  zv : Value
  ev : Value
def vcells (v : Va) (c : Cl) : List Value := [.int .u8 (v.kind : Int), .string v.text, c.lv, c.hv, c.sv, c.zv, c.ev, .int .u64 (v.ms : Int), .int .u64 (v.seq : Int)]
structure ValAt (w : World) (B : Nat) (c : Cl) (v : Va) : Prop where
  list : TextsAt w B c.lv v.list
  hash : PairsAt w B c.hv v.hash
  set : TextsAt w B c.sv v.set
  zset : ScoredsAt w B c.zv v.zset
  stream : EntriesAt w B c.ev v.stream
def icells (it : It) (c : Cl) : List Value := [.int .i64 it.db, .string it.key, .int .u8 (it.val.kind : Int), .string it.val.text, c.lv, c.hv, c.sv, c.zv, c.ev, .int .u64 (it.val.ms : Int), .int .u64 (it.val.seq : Int), .int .i64 it.dead]
def ItemsAt (w : World) (B : Nat) (v : Value) (l : List It) : Prop :=
  ∃ A c, v = .slice A l.length c ∧ (0 < l.length → ∃ r o, A = some ⟨r, o, none⟩ ∧ r < B ∧ ∀ j (h : j < l.length), ∃ cl, w.rangeAt r (o + j * 12) (icells l[j] cl) ∧ ValAt w B cl l[j].val)
section
variable {w w' : World} {B B' : Nat}
theorem TextsAt.below {v : Value} {l : List ByteArray} (h : TextsAt w B v l) (hb : Below B w w') : TextsAt w' B v l := by
  obtain ⟨A, c, e, h⟩ := h
  refine ⟨A, c, e, fun h0 => ?_⟩
  obtain ⟨r, o, e1, h1, h2⟩ := h h0
  exact ⟨r, o, e1, h1, fun j hj => (hb.cell (p := ⟨r, _, none⟩) h1).trans (h2 j hj)⟩
theorem PairsAt.below {v : Value} {l : List Pr} (h : PairsAt w B v l) (hb : Below B w w') : PairsAt w' B v l := by
  obtain ⟨A, c, e, h⟩ := h
  refine ⟨A, c, e, fun h0 => ?_⟩
  obtain ⟨r, o, e1, h1, h2⟩ := h h0
  exact ⟨r, o, e1, h1, fun j hj => ⟨(hb.cell (p := ⟨r, _, none⟩) h1).trans (h2 j hj).1, (hb.cell (p := ⟨r, _, none⟩) h1).trans (h2 j hj).2⟩⟩
theorem ScoredsAt.below {v : Value} {l : List Sc} (h : ScoredsAt w B v l) (hb : Below B w w') : ScoredsAt w' B v l := by
  obtain ⟨A, c, e, h⟩ := h
  refine ⟨A, c, e, fun h0 => ?_⟩
  obtain ⟨r, o, e1, h1, h2⟩ := h h0
  exact ⟨r, o, e1, h1, fun j hj => ⟨(hb.cell (p := ⟨r, _, none⟩) h1).trans (h2 j hj).1, (hb.cell (p := ⟨r, _, none⟩) h1).trans (h2 j hj).2⟩⟩
theorem EntriesAt.below {v : Value} {l : List En} (h : EntriesAt w B v l) (hb : Below B w w') : EntriesAt w' B v l := by
  obtain ⟨A, c, e, h⟩ := h
  refine ⟨A, c, e, fun h0 => ?_⟩
  obtain ⟨r, o, e1, h1, h2⟩ := h h0
  refine ⟨r, o, e1, h1, fun j hj => ?_⟩
  obtain ⟨a1, a2, pv, a3, a4⟩ := h2 j hj
  exact ⟨(hb.cell (p := ⟨r, _, none⟩) h1).trans a1, (hb.cell (p := ⟨r, _, none⟩) h1).trans a2, pv, (hb.cell (p := ⟨r, _, none⟩) h1).trans a3, a4.below hb⟩
theorem ValAt.below {c : Cl} {v : Va} (h : ValAt w B c v) (hb : Below B w w') : ValAt w' B c v := ⟨h.list.below hb, h.hash.below hb, h.set.below hb, h.zset.below hb, h.stream.below hb⟩
theorem ItemsAt.below {v : Value} {l : List It} (h : ItemsAt w B v l) (hb : Below B w w') : ItemsAt w' B v l := by
  obtain ⟨A, c, e, h⟩ := h
  refine ⟨A, c, e, fun h0 => ?_⟩
  obtain ⟨r, o, e1, h1, h2⟩ := h h0
  refine ⟨r, o, e1, h1, fun j hj => ?_⟩
  obtain ⟨cl, a1, a2⟩ := h2 j hj
  exact ⟨cl, fun i u hu => (hb.cell (p := ⟨r, _, none⟩) h1).trans (a1 i u hu), a2.below hb⟩
theorem TextsAt.more {v : Value} {l : List ByteArray} (h : TextsAt w B v l) (hB : B ≤ B') : TextsAt w B' v l := by
  obtain ⟨A, c, e, h⟩ := h
  refine ⟨A, c, e, fun h0 => ?_⟩
  obtain ⟨r, o, e1, h1, h2⟩ := h h0
  exact ⟨r, o, e1, by omega, h2⟩
theorem PairsAt.more {v : Value} {l : List Pr} (h : PairsAt w B v l) (hB : B ≤ B') : PairsAt w B' v l := by
  obtain ⟨A, c, e, h⟩ := h
  refine ⟨A, c, e, fun h0 => ?_⟩
  obtain ⟨r, o, e1, h1, h2⟩ := h h0
  exact ⟨r, o, e1, by omega, h2⟩
theorem ScoredsAt.more {v : Value} {l : List Sc} (h : ScoredsAt w B v l) (hB : B ≤ B') : ScoredsAt w B' v l := by
  obtain ⟨A, c, e, h⟩ := h
  refine ⟨A, c, e, fun h0 => ?_⟩
  obtain ⟨r, o, e1, h1, h2⟩ := h h0
  exact ⟨r, o, e1, by omega, h2⟩
theorem EntriesAt.more {v : Value} {l : List En} (h : EntriesAt w B v l) (hB : B ≤ B') : EntriesAt w B' v l := by
  obtain ⟨A, c, e, h⟩ := h
  refine ⟨A, c, e, fun h0 => ?_⟩
  obtain ⟨r, o, e1, h1, h2⟩ := h h0
  refine ⟨r, o, e1, by omega, fun j hj => ?_⟩
  obtain ⟨a1, a2, pv, a3, a4⟩ := h2 j hj
  exact ⟨a1, a2, pv, a3, a4.more hB⟩
theorem ValAt.more {c : Cl} {v : Va} (h : ValAt w B c v) (hB : B ≤ B') : ValAt w B' c v := ⟨h.list.more hB, h.hash.more hB, h.set.more hB, h.zset.more hB, h.stream.more hB⟩
theorem ItemsAt.more {v : Value} {l : List It} (h : ItemsAt w B v l) (hB : B ≤ B') : ItemsAt w B' v l := by
  obtain ⟨A, c, e, h⟩ := h
  refine ⟨A, c, e, fun h0 => ?_⟩
  obtain ⟨r, o, e1, h1, h2⟩ := h h0
  refine ⟨r, o, e1, by omega, fun j hj => ?_⟩
  obtain ⟨cl, a1, a2⟩ := h2 j hj
  exact ⟨cl, a1, a2.more hB⟩
end
/-- a bool of a proposition, closed to the walk -/
noncomputable def pb (P : Prop) : Bool := @decide P (Classical.propDecidable P)
theorem pb_true {P : Prop} (h : P) : pb P = true := by unfold pb; simp [h]
theorem pb_false {P : Prop} (h : ¬ P) : pb P = false := by unfold pb; simp [h]
theorem pb_decide (P : Prop) [inst : Decidable P] : decide P = pb P := by
  unfold pb
  by_cases h : P
  · simp [h]
  · simp [h]
theorem pb_congr {P Q : Prop} (h : P ↔ Q) : pb P = pb Q := by rw [propext h]
/-- a call that answers whether P holds, and turns nothing of what was there -/
abbrev Asks (f : FuncId) (args : Array Value) (w : World) (P : Prop) : Prop := Calls Try.prog f args w fun e w' => e = .returned (.bool (pb P)) ∧ Below w.heap.size w w'
theorem Asks.same {f : FuncId} {args : Array Value} {w : World} {P : Prop} (h : Calls Try.prog f args w fun e w' => e = .returned (.bool (pb P)) ∧ w = w') : Asks f args w P := h.mono fun _ _ ⟨h1, h2⟩ => ⟨h1, by subst h2; exact Below.refl _ _⟩
theorem Asks.iff {f : FuncId} {args : Array Value} {w : World} {P Q : Prop} (h : Asks f args w P) (hPQ : P ↔ Q) : Asks f args w Q := by rw [propext hPQ] at h; exact h

def MayP (s : ByteArray) : Prop := s.size ≤ 65536
def PairP (p : Pr) : Prop := MayP p.1 ∧ MayP p.2
theorem may_any (s : ByteArray) (w : World) : Calls Try.prog 20 #[.string s] w fun e w' => e = .returned (.bool (pb (MayP s))) ∧ w = w' := by
  by_cases h : (s.size : Int) ≤ 65536
  · rw [pb_true (show MayP s from by unfold MayP; omega)]
    go_enter Try.func20, Try.ntmps20
    go_wp2
    go_ret
    exact ⟨rfl, rfl⟩
  · rw [pb_false (show ¬ MayP s from by unfold MayP; omega)]
    go_enter Try.func20, Try.ntmps20
    go_wp2
    go_ret
    exact ⟨rfl, rfl⟩
theorem pair_any (p : Pr) (w : World) : Asks 48 #[.agg #[.string p.1, .string p.2]] w (PairP p) := by
  obtain ⟨a, b⟩ := p
  have HM := Lib.hid (fun s w => may_any s w)
  by_cases h : MayP a
  · by_cases h2 : MayP b
    · unfold Asks
      rw [pb_true (show PairP (a, b) from ⟨h, h2⟩)]
      have ha := pb_true h
      have hb := pb_true h2
      clear h h2
      go_enter Try.func48, Try.ntmps48
      go_wp2_with ((refine (HM.out _ _).mono ?_; rintro e w' ⟨rfl, rfl⟩))
      go_ret
      exact ⟨rfl, (Below.refl _ _).alloc (Nat.le_refl _) _⟩
    · unfold Asks
      rw [pb_false (show ¬ PairP (a, b) from fun h => h2 h.2)]
      have ha := pb_true h
      have hb := pb_false h2
      clear h h2
      go_enter Try.func48, Try.ntmps48
      go_wp2_with ((refine (HM.out _ _).mono ?_; rintro e w' ⟨rfl, rfl⟩))
      go_ret
      exact ⟨rfl, (Below.refl _ _).alloc (Nat.le_refl _) _⟩
  · unfold Asks
    rw [pb_false (show ¬ PairP (a, b) from fun h' => h h'.1)]
    have ha := pb_false h
    clear h
    go_enter Try.func48, Try.ntmps48
    go_wp2_with ((refine (HM.out _ _).mono ?_; rintro e w' ⟨rfl, rfl⟩))
    go_ret
    exact ⟨rfl, (Below.refl _ _).alloc (Nat.le_refl _) _⟩
end Go.Proofs.Ytpnmhldaaaemeaa.Snp
