/- Chapter 09: New; lists are filled. -/
import Derived.Test.YtmlaackdcnpjmaaDoorSkL09
namespace Go.Proofs.YtmlaackdcnpjmaaDoor.Skp
open Go Go.RowKit Go.Proofs.YtmlaackdcnpjmaaDoor.Pin Go.Proofs.YtmlaackdcnpjmaaDoor.Flt
def NewE (w w' : World) (e : Ending) : Prop := ∃ s own, e = .returned (.pointer (some ⟨s, 0, none⟩)) ∧ SkL w' own s [] ∧ ∀ k, own k → w.heap.size ≤ k
theorem new_sk (seed : Nat) (h64 : seed < 2 ^ 64) (w : World) : SkL ((w.alloc (.cells (NW (⟨#[]⟩, 0) 32) 64)).alloc (.cells #[.int .u64 (seed : Int), .pointer (some ⟨w.heap.size, 0, none⟩), .int .i64 0] 58)) (fun k => k = w.heap.size ∨ k = w.heap.size + 1) (w.heap.size + 1) [] := by
  obtain ⟨h1, h2⟩ := two_new w (.cells (NW (⟨#[]⟩, 0) 32) 64) (.cells #[.int .u64 (seed : Int), .pointer (some ⟨w.heap.size, 0, none⟩), .int .i64 0] 58)
  refine ⟨srt_nil, seed, fun _ => w.heap.size, fun _ => 32, fun _ => (⟨#[]⟩, 0), h64, ⟨h2, fun p _ => ⟨_, h1, rfl⟩, fun p _ => ?_, fun p h0 hp => absurd hp (by simp; omega), fun p q hp hq _ => ?_, fun p _ => by omega, rfl, fun p _ => by omega, fun h hh p hp _ => ?_, .inr rfl, fun p _ => .inl rfl, by simp⟩, fun i h => absurd h (by simp)⟩
  · unfold cel; rw [Lib.cell_of_heap h1]; rfl
  · simp at hp hq; omega
  · refine .inr ⟨fun r r1 r2 => absurd r2 (by simp; omega), ?_, 0, ?_⟩
    · unfold cel; rw [Lib.cell_of_heap h1]; exact (nw_link _ _ h hh).1
    · unfold cel; rw [Lib.cell_of_heap h1]; exact (nw_link _ _ h hh).2
set_option maxRecDepth 100000 in
theorem new_any (seed : Nat) (h64 : seed < 2 ^ 64) (w : World) : Calls Tryd.prog 20 #[.int .u64 (seed : Int)] w fun e w' => NewE w w' e ∧ Below w.heap.size w w' := by
  have HS := Lib.hid (new_sk seed h64 w)
  have hzn := zero_node w
  clear h64
  go_enter Tryd.func20, Tryd.ntmps20
  go_wp2_with fail
  go_ret
  exact ⟨⟨w.heap.size + 1, _, rfl, HS.out, fun k hk => by omega⟩, ((Below.refl _ w).alloc (Nat.le_refl _) _).alloc (by simp) _⟩
/-- members that came in -/
def MemsAt (w : World) (B : Nat) (v : Value) (l : List Sc) : Prop :=
  ∃ A c, v = .slice A l.length c ∧ (0 < l.length → ∃ r o, A = some ⟨r, o, none⟩ ∧ r < B ∧ ∀ j (h : j < l.length), w.cell? ⟨r, o + j * 2, none⟩ = some (.string l[j].1) ∧ w.cell? ⟨r, o + j * 2 + 1, none⟩ = some (.float .f64 l[j].2))
theorem MemsAt.below {w w' : World} {B : Nat} {v : Value} {l : List Sc} (h : MemsAt w B v l) (hb : Below B w w') : MemsAt w' B v l := by
  obtain ⟨A, c, e, h⟩ := h
  refine ⟨A, c, e, fun h0 => ?_⟩
  obtain ⟨r, o, e1, h1, h2⟩ := h h0
  exact ⟨r, o, e1, h1, fun j hj => ⟨(hb.cell (p := ⟨r, _, none⟩) h1).trans (h2 j hj).1, (hb.cell (p := ⟨r, _, none⟩) h1).trans (h2 j hj).2⟩⟩
theorem MemsAt.more {w : World} {B B' : Nat} {v : Value} {l : List Sc} (h : MemsAt w B v l) (hB : B ≤ B') : MemsAt w B' v l := by
  obtain ⟨A, c, e, h⟩ := h
  refine ⟨A, c, e, fun h0 => ?_⟩
  obtain ⟨r, o, e1, h1, h2⟩ := h h0
  exact ⟨r, o, e1, by omega, h2⟩
/-- what a list holds into which these have been put -/
def Holds (L l : List Sc) : Prop := ∀ x, x ∈ L ↔ ∃ m ∈ l, Num m.2 ∧ m.1.size ≤ 65536 ∧ x = nrm m
theorem holds_put {L L' l : List Sc} {m : Sc} {ok : Bool} {er : Int} (h : Holds L l) (hp : PutL L m ok er L') : Holds L' (l ++ [m]) := by
  intro x
  rcases hp with ⟨hb, _, _, rfl⟩ | ⟨h1, h2, h3, _, _, rfl⟩ | ⟨h1, h2, h3, _, _, _, h4⟩
  · rw [h x]
    constructor
    · rintro ⟨y, hy, k⟩; exact ⟨y, List.mem_append_left _ hy, k⟩
    · rintro ⟨y, hy, k1, k2, k3⟩
      rcases List.mem_append.1 hy with hy | hy
      · exact ⟨y, hy, k1, k2, k3⟩
      · obtain rfl := List.mem_singleton.1 hy
        exact absurd ⟨k1, k2⟩ hb
  · constructor
    · intro hx
      obtain ⟨y, hy, k⟩ := (h x).1 hx
      exact ⟨y, List.mem_append_left _ hy, k⟩
    · rintro ⟨y, hy, k1, k2, k3⟩
      rcases List.mem_append.1 hy with hy | hy
      · exact (h x).2 ⟨y, hy, k1, k2, k3⟩
      · obtain rfl := List.mem_singleton.1 hy
        rw [k3]; exact h3
  · rw [h4 x]
    constructor
    · rintro (hx | rfl)
      · obtain ⟨y, hy, k⟩ := (h x).1 hx
        exact ⟨y, List.mem_append_left _ hy, k⟩
      · exact ⟨m, by simp, h1, h2, rfl⟩
    · rintro ⟨y, hy, k1, k2, k3⟩
      rcases List.mem_append.1 hy with hy | hy
      · exact .inl ((h x).2 ⟨y, hy, k1, k2, k3⟩)
      · obtain rfl := List.mem_singleton.1 hy
        exact .inr k3
theorem len_put {L L' : List Sc} {m : Sc} {ok : Bool} {er : Int} (hp : PutL L m ok er L') : L'.length ≤ L.length + 1 := by
  rcases hp with ⟨_, _, _, rfl⟩ | ⟨_, _, _, _, _, rfl⟩ | ⟨_, _, _, _, _, h, _⟩ <;> omega
structure FilR (w : World) (s : Nat) (own : Nat → Prop) (L l : List Sc) (k : Nat) (wr : World) : Prop where
  sk : SkL wr own s L
  holds : Holds L (l.take k)
  len : L.length ≤ k
  new : ∀ r, own r → w.heap.size ≤ r
  old : Below w.heap.size w wr
def FilE (w w' : World) (l : List Sc) (e : Ending) : Prop := ∃ s own L, e = .returned (.pointer (some ⟨s, 0, none⟩)) ∧ FilR w s own L l l.length w'
set_option maxHeartbeats 2000000 in
set_option maxRecDepth 100000 in
theorem fill_any (seed : Nat) (h64 : seed < 2 ^ 64) (l : List Sc) (v : Value) (w : World) (hl : MemsAt w w.heap.size v l) (hw : ∀ m ∈ l, m.2 < 2 ^ 64) (hT : Tab w) (hn : l.length < 1099511627776) :
    Calls Tryd.prog 9 #[.int .u64 (seed : Int), v] w fun e w' => FilE w w' l e := by
  have HW := Lib.hid hw
  have HT := Lib.hid hT
  have HNE := Lib.hid (new_any seed h64 w)
  obtain ⟨A, c, rfl, hl⟩ := hl
  obtain ⟨n, hnn⟩ : ∃ n, n = l.length := ⟨_, rfl⟩
  have HN := Lib.hid hnn
  have HL := Lib.hid hl
  rw [← hnn] at hn ⊢
  have HLT := Lib.hid hn
  clear h64 hw hT hl hnn
  go_enter Tryd.func9, Tryd.ntmps9
  go_wp2_with fail
  refine HNE.out.mono ?_
  rintro e w1 ⟨⟨s, own, rfl, hs, ho⟩, hb⟩
  have HR0 : Hid (FilR w s own [] l 0 w1) := Lib.hid ⟨hs, fun x => by simp, Nat.le_refl _, ho, hb⟩
  clear hs ho hb
  go_wp2_with fail
  go_loopw [6] (fun i wr => ∃ (k : Nat) (own : Nat → Prop) (L : List Sc), k ≤ n ∧ i = .int .i64 (k : Int) ∧ Hid (FilR w s own L l k wr)) (fun i _ => n - (intOf i).toNat)
  case atStart => exact ⟨0, own, [], Nat.zero_le _, rfl, HR0⟩
  case round =>
    obtain ⟨k, own, L, hk, rfl, HR⟩ := hrel
    clear HR0
    by_cases hlt : (k : Int) < (n : Int)
    · have hkl : k < l.length := by have := HN.out; omega
      obtain ⟨r, o, rfl, hr, hc⟩ := HL.out (by omega)
      obtain ⟨x, hx⟩ : ∃ x, x = l[k] := ⟨_, rfl⟩
      have HX := Lib.hid hx
      have hck := hc k hkl
      rw [← hx] at hck
      have x1 : wr.cell? ⟨r, o + k * 2, none⟩ = some (.string x.1) := (HR.out.old.cell (p := ⟨r, _, none⟩) hr).trans hck.1
      have x2 : wr.cell? ⟨r, o + k * 2 + 1, none⟩ = some (.float .f64 x.2) := (HR.out.old.cell (p := ⟨r, _, none⟩) hr).trans hck.2
      have HP := Lib.hid (put_list x HR.out.sk (by rw [hx]; exact HW.out _ (List.getElem_mem hkl)) (HT.out.below HR.out.old) (by have := HR.out.len; have := HLT.out; omega))
      have HTK : Hid (l.take (k + 1) = l.take k ++ [x]) := Lib.hid (by rw [HX.out]; exact List.take_succ_eq_append_getElem hkl)
      clear hx hc hck
      go_wp2_with fail
      refine HP.out.mono ?_
      rintro e w2 ⟨ok, er, L', own', rfl, hp, hs, hf, hn'⟩
      have HR2 : Hid (FilR w s own' L' l (k + 1) w2) := Lib.hid ⟨hs, by rw [HTK.out]; exact holds_put HR.out.holds hp, by have := len_put hp; have := HR.out.len; omega, fun r hr => by
        rcases hn' r hr with h | h
        · exact HR.out.new r h
        · have := HR.out.old.size; omega, HR.out.old.trans ⟨hf.os, hf.tape, hf.output, hf.size, fun q hq => hf.block q (by have := HR.out.old.size; omega) (fun h => by have := HR.out.new q h; omega)⟩⟩
      clear hp hs hf hn'
      go_wp2_with fail
      exact ⟨⟨k + 1, own', L', by omega, by go_num, HR2⟩, by simp [intOf]; omega⟩
    · have hkn : k = n := by omega
      have HK := Lib.hid hkn
      clear hkn
      go_wp2_with fail
      go_ret
      exact ⟨s, own, L, rfl, by rw [← HN.out, ← HK.out]; exact HR.out⟩
end Go.Proofs.YtmlaackdcnpjmaaDoor.Skp
