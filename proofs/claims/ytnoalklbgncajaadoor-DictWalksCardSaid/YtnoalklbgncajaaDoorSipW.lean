/- The walks of the rounds of the keyed hash: RotateLeft64, words.rounds, words.mix. -/
import Derived.Test.YtnoalklbgncajaaDoorU
import Derived.Test.YtnoalklbgncajaaDoorProg
import Derived.Test.YtnoalklbgncajaaDoorPin
import Derived.Lib.Hide
namespace Go.Proofs.YtnoalklbgncajaaDoor.Sip
open Go.RowKit Go.Proofs.YtnoalklbgncajaaDoor.Uw Go.Proofs.YtnoalklbgncajaaDoor.Pin

/-- turned left -/
def rotl (x : BitVec 64) (k : Nat) : BitVec 64 := (x <<< k) ||| (x >>> (64 - k))
structure V4 where
  a : BitVec 64
  b : BitVec 64
  c : BitVec 64
  d : BitVec 64
def sipRound (v : V4) : V4 :=
  let a1 := v.a + v.b
  let c1 := v.c + v.d
  let b1 := rotl v.b 13 ^^^ a1
  let d1 := rotl v.d 16 ^^^ c1
  let a2 := rotl a1 32
  let a3 := a2 + d1
  let c2 := c1 + b1
  let d2 := rotl d1 21 ^^^ a3
  let b2 := rotl b1 17 ^^^ c2
  ⟨a3, b2, rotl c2 32, d2⟩
def sipRounds : Nat → V4 → V4
  | 0, v => v
  | n + 1, v => sipRound (sipRounds n v)
def sipMix (v : V4) (m : BitVec 64) : V4 :=
  let u := sipRounds 2 ⟨v.a, v.b, v.c, v.d ^^^ m⟩
  ⟨u.a ^^^ m, u.b, u.c, u.d⟩
/-- the words in their block -/
def ws (v : V4) : Array Value := #[U v.a, U v.b, U v.c, U v.d]

attribute [local go_sem high] run_xor run_or run_store_U eqGuard_U run_add

section
variable (t : TypeId) (w : World) (k : Nat)
theorem rot_and (hk : k < 64) : bits .and .u64 (k : Int) 63 = (k : Int) := by
  have h := u64_and_nat k 63 (by omega) (by decide)
  rw [show ((63 : Nat) : Int) = 63 from rfl] at h
  rw [h, show (63 : Nat) = 2 ^ 6 - 1 from rfl, Nat.and_two_pow_sub_one_eq_mod]
  omega
theorem rot_shl (hk : k < 64) (x : BitVec 64) : (binOp .shl t (U x) (.int .u64 (k : Int))).run Tryd.prog w = .ok (U (x <<< k)) w := run_shl Tryd.prog t w k .u64 x (by omega)
theorem rot_shr (hk : k < 64) (x : BitVec 64) : (binOp .shr t (U x) (.int .u64 (64 - (k : Int)))).run Tryd.prog w = .ok (U (x >>> (64 - k))) w := by
  have h := run_shr Tryd.prog t w (64 - k) .u64 x (by omega)
  rw [show ((64 - k : Nat) : Int) = 64 - (k : Int) by omega] at h
  exact h
end
attribute [local go_sem high] rot_shl rot_shr
set_option maxHeartbeats 400000 in
theorem rot_any (x : BitVec 64) (k : Nat) (hk : k < 64) (w : World) :
    Calls Tryd.prog 60 #[U x, .int .i64 (k : Int)] w fun e w' => e = .returned (U (rotl x k)) ∧ w = w' := by
  have hb := rot_and k hk
  go_enter Tryd.func60, Tryd.ntmps60
  go_wp2
  go_ret
  exact ⟨rfl, rfl⟩

/-! ## The words' block -/
theorem cells4 {w : World} {g : Nat} {x0 x1 x2 x3 : Value} {t : TypeId} (h : w.heap[g]? = some (.cells #[x0, x1, x2, x3] t (0, 0))) :
    w.cell? ⟨g, 0, none⟩ = some x0 ∧ w.cell? ⟨g, 1, none⟩ = some x1 ∧ w.cell? ⟨g, 2, none⟩ = some x2 ∧ w.cell? ⟨g, 3, none⟩ = some x3 ∧ ∀ j, w.frozen? ⟨g, j, none⟩ = false :=
  ⟨by rw [cell_of_row w g 0 _ _ _ h]; rfl, by rw [cell_of_row w g 1 _ _ _ h]; rfl, by rw [cell_of_row w g 2 _ _ _ h]; rfl, by rw [cell_of_row w g 3 _ _ _ h]; rfl, fun j => frozen_of_row w g j _ _ h⟩
theorem set4_0 {w : World} {g : Nat} {x0 x1 x2 x3 : Value} {t : TypeId} (h : w.heap[g]? = some (.cells #[x0, x1, x2, x3] t (0, 0))) (y : Value) : w.setCell ⟨g, 0, none⟩ y = w.setRow g #[y, x1, x2, x3] := by rw [setCell_eq_setRow w g 0 _ t (0, 0) y h]; rfl
theorem set4_1 {w : World} {g : Nat} {x0 x1 x2 x3 : Value} {t : TypeId} (h : w.heap[g]? = some (.cells #[x0, x1, x2, x3] t (0, 0))) (y : Value) : w.setCell ⟨g, 1, none⟩ y = w.setRow g #[x0, y, x2, x3] := by rw [setCell_eq_setRow w g 1 _ t (0, 0) y h]; rfl
theorem set4_2 {w : World} {g : Nat} {x0 x1 x2 x3 : Value} {t : TypeId} (h : w.heap[g]? = some (.cells #[x0, x1, x2, x3] t (0, 0))) (y : Value) : w.setCell ⟨g, 2, none⟩ y = w.setRow g #[x0, x1, y, x3] := by rw [setCell_eq_setRow w g 2 _ t (0, 0) y h]; rfl
theorem set4_3 {w : World} {g : Nat} {x0 x1 x2 x3 : Value} {t : TypeId} (h : w.heap[g]? = some (.cells #[x0, x1, x2, x3] t (0, 0))) (y : Value) : w.setCell ⟨g, 3, none⟩ y = w.setRow g #[x0, x1, x2, y] := by rw [setCell_eq_setRow w g 3 _ t (0, 0) y h]; rfl

theorem setRow_self {w : World} {g : Nat} {cs : Array Value} {t : TypeId} {fr : Nat × Nat} (h : w.heap[g]? = some (.cells cs t fr)) : w.setRow g cs = w := by
  have hlt : g < w.heap.size := (Array.getElem?_eq_some_iff.1 h).1
  have hv : w.heap[g] = .cells cs t fr := (Array.getElem?_eq_some_iff.1 h).2
  unfold World.setRow
  cases w with
  | mk heap tape drawn os output =>
    congr 1
    apply Array.ext
    · simp
    · intro k h1 h2
      simp only [Array.getElem_modify]
      split
      · rename_i hk; subst hk; simp at hv; simp [hv]
      · rfl
def Inv (w : World) (g : Nat) (v : V4) : Prop := w.heap[g]? = some (.cells (ws v) 82 (0, 0))
theorem Inv.cells {w : World} {g : Nat} {v : V4} (h : Inv w g v) :
    w.cell? ⟨g, 0, none⟩ = some (U v.a) ∧ w.cell? ⟨g, 1, none⟩ = some (U v.b) ∧ w.cell? ⟨g, 2, none⟩ = some (U v.c) ∧ w.cell? ⟨g, 3, none⟩ = some (U v.d) ∧ ∀ j, w.frozen? ⟨g, j, none⟩ = false := cells4 h
theorem Inv.row {w : World} {g : Nat} {v : V4} (h : Inv w g v) (v' : V4) (n : Nat) : Inv ((w.setRow g (ws v')).drewN n) g v' := setRow_heap w g _ _ _ _ h
/-- the world behind some stores, under a new name -/
def Next (w : World) (g : Nat) (v' : V4) (n : Nat) (w' : World) : Prop := w' = (w.setRow g (ws v')).drewN n
theorem Inv.next {w : World} {g : Nat} {v : V4} (h : Inv w g v) (v' : V4) (n : Nat) : ∃ w', Next w g v' n w' ∧ (w.setRow g (ws v')).drewN n = w' ∧ Inv w' g v' := ⟨_, rfl, rfl, h.row v' n⟩
theorem Next.trans {w w' w'' : World} {g : Nat} {v v' : V4} {n n' : Nat} (h : Next w g v n w') (h' : Next w' g v' n' w'') : Next w g v' (n + n') w'' := by
  unfold Next at *
  rw [h', h, setRow_drewN, setRow_setRow, World.drewN_drewN]
theorem st0 {w : World} {g : Nat} {v : V4} (h : Inv w g v) (y : BitVec 64) : w.setCell ⟨g, 0, none⟩ (U y) = w.setRow g (ws ⟨y, v.b, v.c, v.d⟩) := set4_0 h _
theorem st2 {w : World} {g : Nat} {v : V4} (h : Inv w g v) (y : BitVec 64) : w.setCell ⟨g, 2, none⟩ (U y) = w.setRow g (ws ⟨v.a, v.b, y, v.d⟩) := set4_2 h _
theorem st3 {w : World} {g : Nat} {v : V4} (h : Inv w g v) (y : BitVec 64) : w.setCell ⟨g, 3, none⟩ (U y) = w.setRow g (ws ⟨v.a, v.b, v.c, y⟩) := set4_3 h _
theorem st1 {w : World} {g : Nat} {v : V4} (h : Inv w g v) (y : BitVec 64) : w.setCell ⟨g, 1, none⟩ (U y) = w.setRow g (ws ⟨v.a, y, v.c, v.d⟩) := set4_1 h _
theorem Inv.row0 {w : World} {g : Nat} {v : V4} (h : Inv w g v) (v' : V4) : Inv (w.setRow g (ws v')) g v' := setRow_heap w g _ _ _ _ h
theorem st02 {w : World} {g : Nat} {v : V4} (h : Inv w g v) (y z : BitVec 64) : (w.setCell ⟨g, 0, none⟩ (U y)).setCell ⟨g, 2, none⟩ (U z) = w.setRow g (ws ⟨y, v.b, z, v.d⟩) := by
  rw [st0 h, st2 (h.row0 _), setRow_setRow]
theorem st13 {w : World} {g : Nat} {v : V4} (h : Inv w g v) (y z : BitVec 64) : (w.setCell ⟨g, 1, none⟩ (U y)).setCell ⟨g, 3, none⟩ (U z) = w.setRow g (ws ⟨v.a, y, v.c, z⟩) := by
  rw [st1 h, st3 (h.row0 _), setRow_setRow]
theorem st31 {w : World} {g : Nat} {v : V4} (h : Inv w g v) (y z : BitVec 64) : (w.setCell ⟨g, 3, none⟩ (U z)).setCell ⟨g, 1, none⟩ (U y) = w.setRow g (ws ⟨v.a, y, v.c, z⟩) := by
  rw [st3 h, st1 (h.row0 _), setRow_setRow]

set_option maxHeartbeats 4000000 in
set_option maxRecDepth 100000 in
/-- one round, from the loop's head -/
theorem rounds_any (g : Nat) (v : V4) (k : Nat) (hk : k ≤ 1000) (w : World) (hg : Hid (Inv w g v)) :
    Calls Tryd.prog 49 #[.pointer (some ⟨g, 0, none⟩), .int .i64 (k : Int)] w fun e w' => e = .returned (.tuple #[]) ∧ ∃ n, Next w g (sipRounds k v) n w' := by
  go_enter Tryd.func49, Tryd.ntmps49
  go_wp2
  go_loopw [5] (fun i wr => ∃ j : Nat, j ≤ k ∧ i = .int .i64 j ∧ Hid (Inv wr g (sipRounds j v) ∧ ∃ n, Next w g (sipRounds j v) n wr)) (fun i _ => k - (intOf i).toNat)
  case atStart => exact ⟨0, by omega, rfl, Lib.hid ⟨hg.out, 0, by unfold Next; show w = (w.setRow g (ws v)).drewN 0; rw [setRow_self hg.out]; rfl⟩⟩
  case round =>
    obtain ⟨j, hj, rfl, hI⟩ := hrel
    by_cases hlt : j < k
    · obtain ⟨u, hu⟩ : ∃ u, u = sipRounds j v := ⟨_, rfl⟩
      have HU := Lib.hid hu
      rw [← hu] at hI
      clear hu
      have I0 := Lib.hid hI.out.1
      obtain ⟨c0, c1, c2, c3, fz⟩ := I0.out.cells
      go_wp2
      refine wp_region_pin [0,0,0,0,0,1,0,0,0,1,0,0,0,0,1,0,0,0,1,0,0,0,2,0,0,2] (by kernel_rfl) (by kernel_rfl) ?_
      (refine pin_pure (fun K hK => ?_); go_simp; refine hK _ _ ?_; clear hK K)
      (refine pin_pure (fun K hK => ?_); go_simp; refine hK _ _ ?_; clear hK K)
      (refine pin_pure (fun K hK => ?_); go_simp; refine hK _ _ ?_; clear hK K)
      (refine pin_pure (fun K hK => ?_); go_simp; refine hK _ _ ?_; clear hK K)
      (refine pin_pure (fun K hK => ?_); go_simp; refine hK _ _ ?_; clear hK K)
      (refine pin_read (fun K hK => ?_); go_simp; refine hK _ _ ?_; clear hK K)
      (refine pin_pure (fun K hK => ?_); go_simp; refine hK _ _ ?_; clear hK K)
      (refine pin_pure (fun K hK => ?_); go_simp; refine hK _ _ ?_; clear hK K)
      (refine pin_pure (fun K hK => ?_); go_simp; refine hK _ _ ?_; clear hK K)
      (refine pin_read (fun K hK => ?_); go_simp; refine hK _ _ ?_; clear hK K)
      (refine pin_pure (fun K hK => ?_); go_simp; refine hK _ _ ?_; clear hK K)
      (refine pin_pure (fun K hK => ?_); go_simp; refine hK _ _ ?_; clear hK K)
      (refine pin_pure (fun K hK => ?_); go_simp; refine hK _ _ ?_; clear hK K)
      (refine pin_pure (fun K hK => ?_); go_simp; refine hK _ _ ?_; clear hK K)
      (refine pin_read (fun K hK => ?_); go_simp; refine hK _ _ ?_; clear hK K)
      (refine pin_pure (fun K hK => ?_); go_simp; refine hK _ _ ?_; clear hK K)
      (refine pin_pure (fun K hK => ?_); go_simp; refine hK _ _ ?_; clear hK K)
      (refine pin_pure (fun K hK => ?_); go_simp; refine hK _ _ ?_; clear hK K)
      (refine pin_read (fun K hK => ?_); go_simp; refine hK _ _ ?_; clear hK K)
      (refine pin_pure (fun K hK => ?_); go_simp; refine hK _ _ ?_; clear hK K)
      (refine pin_pure (fun K hK => ?_); go_simp; refine hK _ _ ?_; clear hK K)
      (refine pin_pure (fun K hK => ?_); go_simp; refine hK _ _ ?_; clear hK K)
      (refine pin_write (fun K hK => ?_); go_simp; refine fun nw => ⟨_, ⟨_, rfl⟩, hK _ _ ?_⟩; clear hK K)
      (refine pin_pure (fun K hK => ?_); go_simp; refine hK _ _ ?_; clear hK K)
      (refine pin_pure (fun K hK => ?_); go_simp; refine hK _ _ ?_; clear hK K)
      (refine pin_write (fun K hK => ?_); go_simp; refine fun nw => ⟨_, ⟨_, rfl⟩, hK _ _ ?_⟩; clear hK K)
      refine pin_nil ?_
      intro nq
      rw [st02 I0.out]
      obtain ⟨W1, N1, e1, i1⟩ := I0.out.next ⟨u.a + u.b, u.b, u.c + u.d, u.d⟩ nq
      rw [e1]
      have H1 := Lib.hid N1
      have I1 := Lib.hid i1
      clear N1 e1 i1 c0 c1 c2 c3 fz
      obtain ⟨c0, c1, c2, c3, fz⟩ := I1.out.cells
      dsimp only at c0 c1 c2 c3
      go_wp2
      refine wp_region_pin [0,0,0,0,0,1,1,0,0,0,1,0,0,0,0,1,1,0,0,0,1,0,0,0,2,0,0,2] (by kernel_rfl) (by kernel_rfl) ?_
      (refine pin_pure (fun K hK => ?_); go_simp; refine hK _ _ ?_; clear hK K)
      (refine pin_pure (fun K hK => ?_); go_simp; refine hK _ _ ?_; clear hK K)
      (refine pin_pure (fun K hK => ?_); go_simp; refine hK _ _ ?_; clear hK K)
      (refine pin_pure (fun K hK => ?_); go_simp; refine hK _ _ ?_; clear hK K)
      (refine pin_pure (fun K hK => ?_); go_simp; refine hK _ _ ?_; clear hK K)
      (refine pin_read (fun K hK => ?_); go_simp; refine hK _ _ ?_; clear hK K)
      (refine pin_read (fun K hK => ?_); go_simp; apply Exists.intro; refine ⟨fun nw => ?_, hK _ _ ?_⟩; (exact read_same (rot_any _ 13 (by decide) _)); clear hK K)
      (refine pin_pure (fun K hK => ?_); go_simp; refine hK _ _ ?_; clear hK K)
      (refine pin_pure (fun K hK => ?_); go_simp; refine hK _ _ ?_; clear hK K)
      (refine pin_pure (fun K hK => ?_); go_simp; refine hK _ _ ?_; clear hK K)
      (refine pin_read (fun K hK => ?_); go_simp; refine hK _ _ ?_; clear hK K)
      (refine pin_pure (fun K hK => ?_); go_simp; refine hK _ _ ?_; clear hK K)
      (refine pin_pure (fun K hK => ?_); go_simp; refine hK _ _ ?_; clear hK K)
      (refine pin_pure (fun K hK => ?_); go_simp; refine hK _ _ ?_; clear hK K)
      (refine pin_pure (fun K hK => ?_); go_simp; refine hK _ _ ?_; clear hK K)
      (refine pin_read (fun K hK => ?_); go_simp; refine hK _ _ ?_; clear hK K)
      (refine pin_read (fun K hK => ?_); go_simp; apply Exists.intro; refine ⟨fun nw => ?_, hK _ _ ?_⟩; (exact read_same (rot_any _ 16 (by decide) _)); clear hK K)
      (refine pin_pure (fun K hK => ?_); go_simp; refine hK _ _ ?_; clear hK K)
      (refine pin_pure (fun K hK => ?_); go_simp; refine hK _ _ ?_; clear hK K)
      (refine pin_pure (fun K hK => ?_); go_simp; refine hK _ _ ?_; clear hK K)
      (refine pin_read (fun K hK => ?_); go_simp; refine hK _ _ ?_; clear hK K)
      (refine pin_pure (fun K hK => ?_); go_simp; refine hK _ _ ?_; clear hK K)
      (refine pin_pure (fun K hK => ?_); go_simp; refine hK _ _ ?_; clear hK K)
      (refine pin_pure (fun K hK => ?_); go_simp; refine hK _ _ ?_; clear hK K)
      (refine pin_write (fun K hK => ?_); go_simp; refine fun nw => ⟨_, ⟨_, rfl⟩, hK _ _ ?_⟩; clear hK K)
      (refine pin_pure (fun K hK => ?_); go_simp; refine hK _ _ ?_; clear hK K)
      (refine pin_pure (fun K hK => ?_); go_simp; refine hK _ _ ?_; clear hK K)
      (refine pin_write (fun K hK => ?_); go_simp; refine fun nw => ⟨_, ⟨_, rfl⟩, hK _ _ ?_⟩; clear hK K)
      refine pin_nil ?_
      intro nq
      rw [st13 I1.out]
      obtain ⟨W2, N2, e2, i2⟩ := I1.out.next ⟨u.a + u.b, rotl u.b 13 ^^^ (u.a + u.b), u.c + u.d, rotl u.d 16 ^^^ (u.c + u.d)⟩ nq
      rw [e2]
      have H2 := Lib.hid N2
      have I2 := Lib.hid i2
      clear N2 e2 i2 c0 c1 c2 c3 fz
      obtain ⟨c0, c1, c2, c3, fz⟩ := I2.out.cells
      dsimp only at c0 c1 c2 c3
      go_wp2
      refine wp_region_pin [0,0,0,0,1,1,0,0,2] (by kernel_rfl) (by kernel_rfl) ?_
      (refine pin_pure (fun K hK => ?_); go_simp; refine hK _ _ ?_; clear hK K)
      (refine pin_pure (fun K hK => ?_); go_simp; refine hK _ _ ?_; clear hK K)
      (refine pin_pure (fun K hK => ?_); go_simp; refine hK _ _ ?_; clear hK K)
      (refine pin_pure (fun K hK => ?_); go_simp; refine hK _ _ ?_; clear hK K)
      (refine pin_read (fun K hK => ?_); go_simp; refine hK _ _ ?_; clear hK K)
      (refine pin_read (fun K hK => ?_); go_simp; apply Exists.intro; refine ⟨fun nw => ?_, hK _ _ ?_⟩; (exact read_same (rot_any _ 32 (by decide) _)); clear hK K)
      (refine pin_pure (fun K hK => ?_); go_simp; refine hK _ _ ?_; clear hK K)
      (refine pin_pure (fun K hK => ?_); go_simp; refine hK _ _ ?_; clear hK K)
      (refine pin_write (fun K hK => ?_); go_simp; refine fun nw => ⟨_, ⟨_, rfl⟩, hK _ _ ?_⟩; clear hK K)
      refine pin_nil ?_
      intro nq
      rw [st0 I2.out]
      obtain ⟨W3, N3, e3, i3⟩ := I2.out.next ⟨rotl (u.a + u.b) 32, rotl u.b 13 ^^^ (u.a + u.b), u.c + u.d, rotl u.d 16 ^^^ (u.c + u.d)⟩ nq
      rw [e3]
      have H3 := Lib.hid N3
      have I3 := Lib.hid i3
      clear N3 e3 i3 c0 c1 c2 c3 fz
      obtain ⟨c0, c1, c2, c3, fz⟩ := I3.out.cells
      dsimp only at c0 c1 c2 c3
      go_wp2
      refine wp_region_pin [0,0,0,0,0,1,0,0,0,1,0,0,0,0,1,0,0,0,1,0,0,0,2,0,0,2] (by kernel_rfl) (by kernel_rfl) ?_
      (refine pin_pure (fun K hK => ?_); go_simp; refine hK _ _ ?_; clear hK K)
      (refine pin_pure (fun K hK => ?_); go_simp; refine hK _ _ ?_; clear hK K)
      (refine pin_pure (fun K hK => ?_); go_simp; refine hK _ _ ?_; clear hK K)
      (refine pin_pure (fun K hK => ?_); go_simp; refine hK _ _ ?_; clear hK K)
      (refine pin_pure (fun K hK => ?_); go_simp; refine hK _ _ ?_; clear hK K)
      (refine pin_read (fun K hK => ?_); go_simp; refine hK _ _ ?_; clear hK K)
      (refine pin_pure (fun K hK => ?_); go_simp; refine hK _ _ ?_; clear hK K)
      (refine pin_pure (fun K hK => ?_); go_simp; refine hK _ _ ?_; clear hK K)
      (refine pin_pure (fun K hK => ?_); go_simp; refine hK _ _ ?_; clear hK K)
      (refine pin_read (fun K hK => ?_); go_simp; refine hK _ _ ?_; clear hK K)
      (refine pin_pure (fun K hK => ?_); go_simp; refine hK _ _ ?_; clear hK K)
      (refine pin_pure (fun K hK => ?_); go_simp; refine hK _ _ ?_; clear hK K)
      (refine pin_pure (fun K hK => ?_); go_simp; refine hK _ _ ?_; clear hK K)
      (refine pin_pure (fun K hK => ?_); go_simp; refine hK _ _ ?_; clear hK K)
      (refine pin_read (fun K hK => ?_); go_simp; refine hK _ _ ?_; clear hK K)
      (refine pin_pure (fun K hK => ?_); go_simp; refine hK _ _ ?_; clear hK K)
      (refine pin_pure (fun K hK => ?_); go_simp; refine hK _ _ ?_; clear hK K)
      (refine pin_pure (fun K hK => ?_); go_simp; refine hK _ _ ?_; clear hK K)
      (refine pin_read (fun K hK => ?_); go_simp; refine hK _ _ ?_; clear hK K)
      (refine pin_pure (fun K hK => ?_); go_simp; refine hK _ _ ?_; clear hK K)
      (refine pin_pure (fun K hK => ?_); go_simp; refine hK _ _ ?_; clear hK K)
      (refine pin_pure (fun K hK => ?_); go_simp; refine hK _ _ ?_; clear hK K)
      (refine pin_write (fun K hK => ?_); go_simp; refine fun nw => ⟨_, ⟨_, rfl⟩, hK _ _ ?_⟩; clear hK K)
      (refine pin_pure (fun K hK => ?_); go_simp; refine hK _ _ ?_; clear hK K)
      (refine pin_pure (fun K hK => ?_); go_simp; refine hK _ _ ?_; clear hK K)
      (refine pin_write (fun K hK => ?_); go_simp; refine fun nw => ⟨_, ⟨_, rfl⟩, hK _ _ ?_⟩; clear hK K)
      refine pin_nil ?_
      intro nq
      rw [st02 I3.out]
      obtain ⟨W4, N4, e4, i4⟩ := I3.out.next ⟨rotl (u.a + u.b) 32 + (rotl u.d 16 ^^^ (u.c + u.d)), rotl u.b 13 ^^^ (u.a + u.b), u.c + u.d + (rotl u.b 13 ^^^ (u.a + u.b)), rotl u.d 16 ^^^ (u.c + u.d)⟩ nq
      rw [e4]
      have H4 := Lib.hid N4
      have I4 := Lib.hid i4
      clear N4 e4 i4 c0 c1 c2 c3 fz
      obtain ⟨c0, c1, c2, c3, fz⟩ := I4.out.cells
      dsimp only at c0 c1 c2 c3
      go_wp2
      refine wp_region_pin [0,0,0,0,0,1,1,0,0,0,1,0,0,0,0,1,1,0,0,0,1,0,0,0,2,0,0,2] (by kernel_rfl) (by kernel_rfl) ?_
      (refine pin_pure (fun K hK => ?_); go_simp; refine hK _ _ ?_; clear hK K)
      (refine pin_pure (fun K hK => ?_); go_simp; refine hK _ _ ?_; clear hK K)
      (refine pin_pure (fun K hK => ?_); go_simp; refine hK _ _ ?_; clear hK K)
      (refine pin_pure (fun K hK => ?_); go_simp; refine hK _ _ ?_; clear hK K)
      (refine pin_pure (fun K hK => ?_); go_simp; refine hK _ _ ?_; clear hK K)
      (refine pin_read (fun K hK => ?_); go_simp; refine hK _ _ ?_; clear hK K)
      (refine pin_read (fun K hK => ?_); go_simp; apply Exists.intro; refine ⟨fun nw => ?_, hK _ _ ?_⟩; (exact read_same (rot_any _ 21 (by decide) _)); clear hK K)
      (refine pin_pure (fun K hK => ?_); go_simp; refine hK _ _ ?_; clear hK K)
      (refine pin_pure (fun K hK => ?_); go_simp; refine hK _ _ ?_; clear hK K)
      (refine pin_pure (fun K hK => ?_); go_simp; refine hK _ _ ?_; clear hK K)
      (refine pin_read (fun K hK => ?_); go_simp; refine hK _ _ ?_; clear hK K)
      (refine pin_pure (fun K hK => ?_); go_simp; refine hK _ _ ?_; clear hK K)
      (refine pin_pure (fun K hK => ?_); go_simp; refine hK _ _ ?_; clear hK K)
      (refine pin_pure (fun K hK => ?_); go_simp; refine hK _ _ ?_; clear hK K)
      (refine pin_pure (fun K hK => ?_); go_simp; refine hK _ _ ?_; clear hK K)
      (refine pin_read (fun K hK => ?_); go_simp; refine hK _ _ ?_; clear hK K)
      (refine pin_read (fun K hK => ?_); go_simp; apply Exists.intro; refine ⟨fun nw => ?_, hK _ _ ?_⟩; (exact read_same (rot_any _ 17 (by decide) _)); clear hK K)
      (refine pin_pure (fun K hK => ?_); go_simp; refine hK _ _ ?_; clear hK K)
      (refine pin_pure (fun K hK => ?_); go_simp; refine hK _ _ ?_; clear hK K)
      (refine pin_pure (fun K hK => ?_); go_simp; refine hK _ _ ?_; clear hK K)
      (refine pin_read (fun K hK => ?_); go_simp; refine hK _ _ ?_; clear hK K)
      (refine pin_pure (fun K hK => ?_); go_simp; refine hK _ _ ?_; clear hK K)
      (refine pin_pure (fun K hK => ?_); go_simp; refine hK _ _ ?_; clear hK K)
      (refine pin_pure (fun K hK => ?_); go_simp; refine hK _ _ ?_; clear hK K)
      (refine pin_write (fun K hK => ?_); go_simp; refine fun nw => ⟨_, ⟨_, rfl⟩, hK _ _ ?_⟩; clear hK K)
      (refine pin_pure (fun K hK => ?_); go_simp; refine hK _ _ ?_; clear hK K)
      (refine pin_pure (fun K hK => ?_); go_simp; refine hK _ _ ?_; clear hK K)
      (refine pin_write (fun K hK => ?_); go_simp; refine fun nw => ⟨_, ⟨_, rfl⟩, hK _ _ ?_⟩; clear hK K)
      refine pin_nil ?_
      intro nq
      rw [st31 I4.out]
      obtain ⟨W5, N5, e5, i5⟩ := I4.out.next ⟨rotl (u.a + u.b) 32 + (rotl u.d 16 ^^^ (u.c + u.d)), rotl (rotl u.b 13 ^^^ (u.a + u.b)) 17 ^^^ (u.c + u.d + (rotl u.b 13 ^^^ (u.a + u.b))), u.c + u.d + (rotl u.b 13 ^^^ (u.a + u.b)), rotl (rotl u.d 16 ^^^ (u.c + u.d)) 21 ^^^ (rotl (u.a + u.b) 32 + (rotl u.d 16 ^^^ (u.c + u.d)))⟩ nq
      rw [e5]
      have H5 := Lib.hid N5
      have I5 := Lib.hid i5
      clear N5 e5 i5 c0 c1 c2 c3 fz
      obtain ⟨c0, c1, c2, c3, fz⟩ := I5.out.cells
      dsimp only at c0 c1 c2 c3
      go_wp2
      refine wp_region_pin [0,0,0,0,1,1,0,0,2] (by kernel_rfl) (by kernel_rfl) ?_
      (refine pin_pure (fun K hK => ?_); go_simp; refine hK _ _ ?_; clear hK K)
      (refine pin_pure (fun K hK => ?_); go_simp; refine hK _ _ ?_; clear hK K)
      (refine pin_pure (fun K hK => ?_); go_simp; refine hK _ _ ?_; clear hK K)
      (refine pin_pure (fun K hK => ?_); go_simp; refine hK _ _ ?_; clear hK K)
      (refine pin_read (fun K hK => ?_); go_simp; refine hK _ _ ?_; clear hK K)
      (refine pin_read (fun K hK => ?_); go_simp; apply Exists.intro; refine ⟨fun nw => ?_, hK _ _ ?_⟩; (exact read_same (rot_any _ 32 (by decide) _)); clear hK K)
      (refine pin_pure (fun K hK => ?_); go_simp; refine hK _ _ ?_; clear hK K)
      (refine pin_pure (fun K hK => ?_); go_simp; refine hK _ _ ?_; clear hK K)
      (refine pin_write (fun K hK => ?_); go_simp; refine fun nw => ⟨_, ⟨_, rfl⟩, hK _ _ ?_⟩; clear hK K)
      refine pin_nil ?_
      intro nq
      rw [st2 I5.out]
      obtain ⟨W6, N6, e6, i6⟩ := I5.out.next ⟨rotl (u.a + u.b) 32 + (rotl u.d 16 ^^^ (u.c + u.d)), rotl (rotl u.b 13 ^^^ (u.a + u.b)) 17 ^^^ (u.c + u.d + (rotl u.b 13 ^^^ (u.a + u.b))), rotl (u.c + u.d + (rotl u.b 13 ^^^ (u.a + u.b))) 32, rotl (rotl u.d 16 ^^^ (u.c + u.d)) 21 ^^^ (rotl (u.a + u.b) 32 + (rotl u.d 16 ^^^ (u.c + u.d)))⟩ nq
      rw [e6]
      have H6 := Lib.hid N6
      have I6 := Lib.hid i6
      clear N6 e6 i6 c0 c1 c2 c3 fz
      obtain ⟨c0, c1, c2, c3, fz⟩ := I6.out.cells
      dsimp only at c0 c1 c2 c3
      go_wp2
      have HS : sipRounds (j + 1) v = ⟨rotl (u.a + u.b) 32 + (rotl u.d 16 ^^^ (u.c + u.d)), rotl (rotl u.b 13 ^^^ (u.a + u.b)) 17 ^^^ (u.c + u.d + (rotl u.b 13 ^^^ (u.a + u.b))), rotl (u.c + u.d + (rotl u.b 13 ^^^ (u.a + u.b))) 32, rotl (rotl u.d 16 ^^^ (u.c + u.d)) 21 ^^^ (rotl (u.a + u.b) 32 + (rotl u.d 16 ^^^ (u.c + u.d)))⟩ := by rw [sipRounds, ← HU.out]; rfl
      refine ⟨⟨j + 1, by omega, by go_num, ?_⟩, by simp [intOf]; omega⟩
      rw [HS]
      obtain ⟨n, hn⟩ := hI.out.2
      exact Lib.hid ⟨I6.out, _, (((((hn.trans H1.out).trans H2.out).trans H3.out).trans H4.out).trans H5.out).trans H6.out⟩
    · have e : j = k := by omega
      subst e
      obtain ⟨n, hn⟩ := hI.out.2
      have HN := Lib.hid hn
      clear hn
      go_wp2
      go_end0
      exact ⟨rfl, n, HN.out⟩

set_option maxHeartbeats 1000000 in
set_option maxRecDepth 100000 in
theorem mix_any (g : Nat) (v : V4) (m : BitVec 64) (w : World) (hg : Inv w g v) :
    Calls Tryd.prog 47 #[.pointer (some ⟨g, 0, none⟩), U m] w fun e w' => e = .returned (.tuple #[]) ∧ ∃ n, Next w g (sipMix v m) n w' := by
  have I0 := Lib.hid hg
  clear hg
  obtain ⟨c0, c1, c2, c3, fz⟩ := I0.out.cells
  go_enter Tryd.func47, Tryd.ntmps47
  go_wp2
  refine wp_region_pin [0,0,0,1,0,0,0,0,2] (by kernel_rfl) (by kernel_rfl) ?_
  (refine pin_pure (fun K hK => ?_); go_simp; refine hK _ _ ?_; clear hK K)
  (refine pin_pure (fun K hK => ?_); go_simp; refine hK _ _ ?_; clear hK K)
  (refine pin_pure (fun K hK => ?_); go_simp; refine hK _ _ ?_; clear hK K)
  (refine pin_read (fun K hK => ?_); go_simp; refine hK _ _ ?_; clear hK K)
  (refine pin_pure (fun K hK => ?_); go_simp; refine hK _ _ ?_; clear hK K)
  (refine pin_pure (fun K hK => ?_); go_simp; refine hK _ _ ?_; clear hK K)
  (refine pin_pure (fun K hK => ?_); go_simp; refine hK _ _ ?_; clear hK K)
  (refine pin_pure (fun K hK => ?_); go_simp; refine hK _ _ ?_; clear hK K)
  (refine pin_write (fun K hK => ?_); go_simp; refine fun nw => ⟨_, ⟨_, rfl⟩, hK _ _ ?_⟩; clear hK K)
  refine pin_nil ?_
  intro nq
  rw [st3 I0.out]
  obtain ⟨W1, N1, e1, i1⟩ := I0.out.next ⟨v.a, v.b, v.c, v.d ^^^ m⟩ nq
  rw [e1]
  have H1 := Lib.hid N1
  have I1 := Lib.hid i1
  clear N1 e1 i1 c0 c1 c2 c3 fz
  go_wp2_with fail
  refine (rounds_any g _ 2 (by omega) W1 I1).mono ?_
  rintro e W2 ⟨rfl, n2, N2⟩
  have i2 := I1.out.row (sipRounds 2 ⟨v.a, v.b, v.c, v.d ^^^ m⟩) n2
  rw [show ((W1.setRow g (ws (sipRounds 2 ⟨v.a, v.b, v.c, v.d ^^^ m⟩))).drewN n2) = W2 from N2.symm] at i2
  obtain ⟨u, hu⟩ : ∃ u, u = sipRounds 2 ⟨v.a, v.b, v.c, v.d ^^^ m⟩ := ⟨_, rfl⟩
  rw [← hu] at i2 N2
  have H2 := Lib.hid N2
  have I2 := Lib.hid i2
  have HU := Lib.hid hu
  clear N2 i2 hu
  obtain ⟨c0, c1, c2, c3, fz⟩ := I2.out.cells
  go_wp2
  refine wp_region_pin [0,0,0,1,0,0,0,0,2] (by kernel_rfl) (by kernel_rfl) ?_
  (refine pin_pure (fun K hK => ?_); go_simp; refine hK _ _ ?_; clear hK K)
  (refine pin_pure (fun K hK => ?_); go_simp; refine hK _ _ ?_; clear hK K)
  (refine pin_pure (fun K hK => ?_); go_simp; refine hK _ _ ?_; clear hK K)
  (refine pin_read (fun K hK => ?_); go_simp; refine hK _ _ ?_; clear hK K)
  (refine pin_pure (fun K hK => ?_); go_simp; refine hK _ _ ?_; clear hK K)
  (refine pin_pure (fun K hK => ?_); go_simp; refine hK _ _ ?_; clear hK K)
  (refine pin_pure (fun K hK => ?_); go_simp; refine hK _ _ ?_; clear hK K)
  (refine pin_pure (fun K hK => ?_); go_simp; refine hK _ _ ?_; clear hK K)
  (refine pin_write (fun K hK => ?_); go_simp; refine fun nw => ⟨_, ⟨_, rfl⟩, hK _ _ ?_⟩; clear hK K)
  refine pin_nil ?_
  intro nq
  rw [st0 I2.out]
  have H3 : Hid (Next W2 g (sipMix v m) nq ((W2.setRow g (ws ⟨u.a ^^^ m, u.b, u.c, u.d⟩)).drewN nq)) := by
    show Next _ _ _ _ _
    rw [HU.out]
    rfl
  go_wp2
  go_end0
  exact ⟨rfl, _, (H1.out.trans H2.out).trans H3.out⟩
end Go.Proofs.YtnoalklbgncajaaDoor.Sip
