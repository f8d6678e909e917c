/- The walks of the document's hash: turn, round, mixed. -/
import Derived.Test.YthfbjgdigdlliaaSipW
namespace Go.Proofs.Ythfbjgdigdlliaa.Sip
open Go.RowKit Go.Proofs.Ythfbjgdigdlliaa.Uw Go.Proofs.Ythfbjgdigdlliaa.Pin

/-- one place to the left -/
def turn1 (x : BitVec 64) : BitVec 64 := 2#64 * x + (x >>> 63)
def turnN : Nat → BitVec 64 → BitVec 64
  | 0, x => x
  | n + 1, x => turn1 (turnN n x)

theorem quo63 (P : Program) (t : TypeId) (w : World) (a : BitVec 64) : (binOp .quo t (U a) (.int .u64 9223372036854775808)).run P w = .ok (U (a >>> 63)) w := by
  have h : (binOp .quo t (U a) (.int .u64 9223372036854775808)).run P w = .ok (.int .u64 (IntKind.u64.wrap ((a.toNat : Int).tdiv 9223372036854775808))) w := by simp [U, binOp, Op.intDiv]
  rw [h]; unfold U
  have e : IntKind.u64.wrap ((a.toNat : Int).tdiv 9223372036854775808) = ((a >>> 63).toNat : Int) := by
    rw [BitVec.toNat_ushiftRight, Nat.shiftRight_eq_div_pow, Int.tdiv_eq_ediv_of_nonneg (by omega), IntKind.wrap_u64]
    have := a.isLt
    omega
  rw [e]
theorem mul2 (P : Program) (t : TypeId) (w : World) (a : BitVec 64) : (binOp .mul t (.int .u64 2) (U a)).run P w = .ok (U (2#64 * a)) w := run_mul P t w 2#64 a
attribute [local go_sem high] quo63 mul2 run_add run_xor run_store_U eqGuard_U

set_option maxHeartbeats 400000 in
theorem turn_any (x : BitVec 64) (n : Nat) (hn : n ≤ 64) (w : World) :
    Calls Try.prog 22 #[U x, .int .i64 (n : Int)] w fun e w' => e = .returned (U (turnN n x)) ∧ w = w' := by
  go_enter Try.func22, Try.ntmps22
  go_wp2
  go_loop [0, 5] (fun v i => ∃ k : Nat, k ≤ n ∧ i = .int .i64 k ∧ v = U (turnN k x)) (fun _ i => n - (intOf i).toNat)
  case atStart => exact ⟨0, by omega, rfl, rfl⟩
  case round =>
    obtain ⟨k, hk, rfl, rfl⟩ := hrel
    by_cases hlt : k < n
    · go_wp2
      exact ⟨⟨k + 1, by omega, by go_num, rfl⟩, by simp [intOf]; omega⟩
    · have e : k = n := by omega
      subst e
      go_wp2
      go_ret
      exact ⟨rfl, rfl⟩

/-! ### turning n times is turning by n -/
theorem turn1_eq (x : BitVec 64) : turn1 x = (x <<< 1) ||| (x >>> 63) := by
  unfold turn1
  have h : 2#64 * x = x <<< 1 := by
    apply BitVec.eq_of_toNat_eq
    rw [BitVec.toNat_mul, BitVec.toNat_shiftLeft, Nat.shiftLeft_eq]
    simp [Nat.mul_comm]
  rw [h]
  apply BitVec.add_eq_or_of_and_eq_zero
  apply BitVec.eq_of_getLsbD_eq
  intro i hi
  simp
  intro h1 h2 _
  exact BitVec.getLsbD_of_ge x (63 + i) (by omega)
theorem rotl_bit (x : BitVec 64) (k i : Nat) (hi : i < 64) (hk : k ≤ 64) : (rotl x k).getLsbD i = if i < k then x.getLsbD (64 - k + i) else x.getLsbD (i - k) := by
  unfold rotl
  rw [BitVec.getLsbD_or, BitVec.getLsbD_shiftLeft, BitVec.getLsbD_ushiftRight]
  by_cases h : i < k
  · rw [if_pos h]; simp [h]
  · rw [if_neg h, BitVec.getLsbD_of_ge x (64 - k + i) (by omega)]; simp [h, hi]
theorem turn_rotl (x : BitVec 64) : ∀ n, n ≤ 64 → turnN n x = rotl x n
  | 0, _ => by
    have h : x >>> 64 = 0#64 := by
      apply BitVec.eq_of_toNat_eq
      rw [BitVec.toNat_ushiftRight, Nat.shiftRight_eq_div_pow, Nat.div_eq_of_lt x.isLt]; rfl
    unfold turnN rotl
    simp [h]
  | n + 1, h => by
    rw [turnN, turn_rotl x n (by omega), turn1_eq]
    apply BitVec.eq_of_getLsbD_eq
    intro i hi
    rw [rotl_bit x (n + 1) i hi h, BitVec.getLsbD_or, BitVec.getLsbD_shiftLeft, BitVec.getLsbD_ushiftRight]
    by_cases h0 : i = 0
    · subst h0
      simp
      rw [← BitVec.getLsbD_eq_getElem, rotl_bit x n 63 (by omega) (by omega)]
      by_cases h63 : 63 < n
      · omega
      · rw [if_neg h63]
        try (congr 1; omega)
    · rw [rotl_bit x n (i - 1) (by omega) (by omega)]
      have e : (rotl x n).getLsbD (63 + i) = false := BitVec.getLsbD_of_ge _ _ (by omega)
      rw [e]
      have : ¬ i < 1 := by omega
      simp [hi, this]
      by_cases hl : i < n + 1
      · rw [if_pos (by omega), if_pos hl]; congr 1; omega
      · rw [if_neg (by omega), if_neg hl]; congr 1; omega
theorem turn_rot (x : BitVec 64) (n : Nat) (hn : n ≤ 64) (w : World) :
    Calls Try.prog 22 #[U x, .int .i64 (n : Int)] w fun e w' => e = .returned (U (rotl x n)) ∧ w = w' := by
  rw [← turn_rotl x n hn]; exact turn_any x n hn w

set_option maxHeartbeats 1000000 in
set_option maxRecDepth 100000 in
theorem round_any (a b c d : BitVec 64) (w : World) :
    Calls Try.prog 20 #[.agg #[U a, U b, U c, U d]] w fun e w' =>
      e = .returned (.agg #[U (sipRound ⟨a, b, c, d⟩).a, U (sipRound ⟨a, b, c, d⟩).b, U (sipRound ⟨a, b, c, d⟩).c, U (sipRound ⟨a, b, c, d⟩).d]) ∧ Below w.heap.size w w' := by
  go_enter Try.func20, Try.ntmps20
  go_wp2
  refine wp_region_pin [0,1,1,0,1,0,0,2] (by kernel_rfl) (by kernel_rfl) ?_
  (refine pin_pure (fun K hK => ?_); go_simp; refine hK _ _ ?_; clear hK K)
  (refine pin_read (fun K hK => ?_); go_simp; refine hK _ _ ?_; clear hK K)
  (refine pin_read (fun K hK => ?_); go_simp; apply Exists.intro; refine ⟨fun nw => ?_, hK _ _ ?_⟩; (first | exact read_same (turn_rot _ 13 (by decide) _) | exact read_same_add (turn_rot _ 13 (by decide) _)); clear hK K)
  (refine pin_pure (fun K hK => ?_); go_simp; refine hK _ _ ?_; clear hK K)
  (refine pin_read (fun K hK => ?_); go_simp; refine hK _ _ ?_; clear hK K)
  (refine pin_pure (fun K hK => ?_); go_simp; refine hK _ _ ?_; clear hK K)
  (refine pin_pure (fun K hK => ?_); go_simp; refine hK _ _ ?_; clear hK K)
  (refine pin_write (fun K hK => ?_); go_simp; refine fun nw => ⟨_, ⟨_, rfl⟩, hK _ _ ?_⟩; clear hK K)
  refine pin_nil ?_
  intro nq
  go_wp2_with fail
  refine (turn_rot _ 32 (by decide) _).mono ?_
  rintro e w' ⟨rfl, rfl⟩
  go_wp2_with fail
  refine wp_region_pin [0,1,1,0,1,0,0,2] (by kernel_rfl) (by kernel_rfl) ?_
  (refine pin_pure (fun K hK => ?_); go_simp; refine hK _ _ ?_; clear hK K)
  (refine pin_read (fun K hK => ?_); go_simp; refine hK _ _ ?_; clear hK K)
  (refine pin_read (fun K hK => ?_); go_simp; apply Exists.intro; refine ⟨fun nw => ?_, hK _ _ ?_⟩; (first | exact read_same (turn_rot _ 16 (by decide) _) | exact read_same_add (turn_rot _ 16 (by decide) _)); clear hK K)
  (refine pin_pure (fun K hK => ?_); go_simp; refine hK _ _ ?_; clear hK K)
  (refine pin_read (fun K hK => ?_); go_simp; refine hK _ _ ?_; clear hK K)
  (refine pin_pure (fun K hK => ?_); go_simp; refine hK _ _ ?_; clear hK K)
  (refine pin_pure (fun K hK => ?_); go_simp; refine hK _ _ ?_; clear hK K)
  (refine pin_write (fun K hK => ?_); go_simp; refine fun nw => ⟨_, ⟨_, rfl⟩, hK _ _ ?_⟩; clear hK K)
  refine pin_nil ?_
  intro nq
  go_wp2_with fail
  refine wp_region_pin [0,1,1,0,1,0,0,2] (by kernel_rfl) (by kernel_rfl) ?_
  (refine pin_pure (fun K hK => ?_); go_simp; refine hK _ _ ?_; clear hK K)
  (refine pin_read (fun K hK => ?_); go_simp; refine hK _ _ ?_; clear hK K)
  (refine pin_read (fun K hK => ?_); go_simp; apply Exists.intro; refine ⟨fun nw => ?_, hK _ _ ?_⟩; (first | exact read_same (turn_rot _ 21 (by decide) _) | exact read_same_add (turn_rot _ 21 (by decide) _)); clear hK K)
  (refine pin_pure (fun K hK => ?_); go_simp; refine hK _ _ ?_; clear hK K)
  (refine pin_read (fun K hK => ?_); go_simp; refine hK _ _ ?_; clear hK K)
  (refine pin_pure (fun K hK => ?_); go_simp; refine hK _ _ ?_; clear hK K)
  (refine pin_pure (fun K hK => ?_); go_simp; refine hK _ _ ?_; clear hK K)
  (refine pin_write (fun K hK => ?_); go_simp; refine fun nw => ⟨_, ⟨_, rfl⟩, hK _ _ ?_⟩; clear hK K)
  refine pin_nil ?_
  intro nq
  go_wp2_with fail
  refine wp_region_pin [0,1,1,0,1,0,0,2] (by kernel_rfl) (by kernel_rfl) ?_
  (refine pin_pure (fun K hK => ?_); go_simp; refine hK _ _ ?_; clear hK K)
  (refine pin_read (fun K hK => ?_); go_simp; refine hK _ _ ?_; clear hK K)
  (refine pin_read (fun K hK => ?_); go_simp; apply Exists.intro; refine ⟨fun nw => ?_, hK _ _ ?_⟩; (first | exact read_same (turn_rot _ 17 (by decide) _) | exact read_same_add (turn_rot _ 17 (by decide) _)); clear hK K)
  (refine pin_pure (fun K hK => ?_); go_simp; refine hK _ _ ?_; clear hK K)
  (refine pin_read (fun K hK => ?_); go_simp; refine hK _ _ ?_; clear hK K)
  (refine pin_pure (fun K hK => ?_); go_simp; refine hK _ _ ?_; clear hK K)
  (refine pin_pure (fun K hK => ?_); go_simp; refine hK _ _ ?_; clear hK K)
  (refine pin_write (fun K hK => ?_); go_simp; refine fun nw => ⟨_, ⟨_, rfl⟩, hK _ _ ?_⟩; clear hK K)
  refine pin_nil ?_
  intro nq
  go_wp2_with fail
  refine (turn_rot _ 32 (by decide) _).mono ?_
  rintro e w' ⟨rfl, rfl⟩
  go_wp2_with fail
  refine bodyPost_ret (results_cell_row rfl _ _ (w.heap.size + 1) 45 _ (0, 0) _ rfl (heap_alloc2_new w _ _) Try.underlying45 rfl (by kernel_rfl)) rfl ⟨rfl, ?_⟩
  exact below_drewN (((Below.refl _ _).alloc (Nat.le_refl _) _).alloc (by simp) _) _

theorem sipMix_eq (v : V4) (m : BitVec 64) : sipMix v m = ⟨(sipRound (sipRound ⟨v.a, v.b, v.c, v.d ^^^ m⟩)).a ^^^ m, (sipRound (sipRound ⟨v.a, v.b, v.c, v.d ^^^ m⟩)).b, (sipRound (sipRound ⟨v.a, v.b, v.c, v.d ^^^ m⟩)).c, (sipRound (sipRound ⟨v.a, v.b, v.c, v.d ^^^ m⟩)).d⟩ := rfl
theorem row_size (v : V4) : (#[U v.a, U v.b, U v.c, U v.d] : Array Value).size = 4 := rfl
theorem one_U (x : BitVec 64) : (U x).oneCell' = true := rfl
theorem all_U4 (a b c d : BitVec 64) : (#[U a, U b, U c, U d] : Array Value).all (·.oneCell') = true := by simp [one_U]
theorem info_four : (Try.prog.info? 45).map (·.size) = some 4 := by kernel_rfl

set_option maxHeartbeats 1000000 in
set_option maxRecDepth 100000 in
theorem mixed_any (a b c d m : BitVec 64) (w : World) :
    Calls Try.prog 19 #[.agg #[U a, U b, U c, U d], U m] w fun e w' =>
      e = .returned (.agg #[U (sipMix ⟨a, b, c, d⟩ m).a, U (sipMix ⟨a, b, c, d⟩ m).b, U (sipMix ⟨a, b, c, d⟩ m).c, U (sipMix ⟨a, b, c, d⟩ m).d]) ∧ Below w.heap.size w w' := by
  go_enter Try.func19, Try.ntmps19
  go_wp2_with fail
  refine (round_any _ _ _ _ _).mono ?_
  rintro e w1 ⟨rfl, hb1⟩
  go_wp2_with fail
  refine (round_any _ _ _ _ _).mono ?_
  rintro e w2 ⟨rfl, hb2⟩
  obtain ⟨u, hu⟩ : ∃ u, u = sipRound (sipRound ⟨a, b, c, d ^^^ m⟩) := ⟨_, rfl⟩
  rw [show sipRound ⟨(sipRound ⟨a, b, c, d ^^^ m⟩).a, (sipRound ⟨a, b, c, d ^^^ m⟩).b, (sipRound ⟨a, b, c, d ^^^ m⟩).c, (sipRound ⟨a, b, c, d ^^^ m⟩).d⟩ = u from hu.symm]
  have HU := Lib.hid hu
  clear hu
  have hb := hb1.trans (hb2.mono hb1.size)
  have h2 : w2.heap[w.heap.size]? = _ := (hb.block w.heap.size (by simp; omega)).trans (heap_alloc2_old w _ _)
  have h3 : w2.heap[w.heap.size + 1]? = _ := (hb.block (w.heap.size + 1) (by simp)).trans (heap_alloc2_new w _ _)
  have hz : w.heap.size + 1 + 1 ≤ w2.heap.size := by have := hb.size; simpa using this
  have HB : Hid (Below w.heap.size w w2) := (((Below.refl _ _).alloc (Nat.le_refl _) _).alloc (by simp) _).trans (hb.mono (by simp; omega))
  have H2 := Lib.hid h2
  have H3 := Lib.hid h3
  clear h2 h3 hb hb1 hb2 hz

  have hrow := setRow_heap w2 w.heap.size _ #[U u.a, U u.b, U u.c, U u.d] _ _ H2.out
  have HR := Lib.hid hrow
  obtain ⟨c0, c1, c2, c3, fz⟩ := cells4 hrow
  have hset := set4_0 hrow (U (u.a ^^^ m))
  rw [setRow_setRow] at hset
  have HSET := Lib.hid hset
  have hne := (setRow_other w2 w.heap.size (w.heap.size + 1) #[U (u.a ^^^ m), U u.b, U u.c, U u.d] (by omega)).trans H3.out
  have HN := Lib.hid hne
  have hg2 := setRow_heap w2 w.heap.size _ #[U (u.a ^^^ m), U u.b, U u.c, U u.d] _ _ H2.out
  have HG := Lib.hid hg2
  clear hrow hset hne hg2
  go_wp2_with (first
    | (refine wpList_store_row rfl 45 (.tmp 2) (.tmp 12) rfl w.heap.size #[U u.a, U u.b, U u.c, U u.d] rfl rfl 45 _ H2.out info_four rfl (all_U4 _ _ _ _) ?_)
    | (rw [HSET.out]; refine wpList_load_row rfl 45 (.tmp 2) rfl w.heap.size rfl 45 #[U (u.a ^^^ m), U u.b, U u.c, U u.d] (0, 0) _ HG.out Try.underlying45 rfl info_four ?_)
    | (refine wpList_store_row rfl 45 (.tmp 4) (.tmp 18) rfl (w.heap.size + 1) #[U (u.a ^^^ m), U u.b, U u.c, U u.d] rfl rfl 45 _ HN.out info_four rfl (all_U4 _ _ _ _) ?_))
  refine bodyPost_ret (results_cell_row rfl _ _ (w.heap.size + 1) 45 _ (0, 0) _ rfl (setRow_heap _ _ _ _ _ _ HN.out) Try.underlying45 rfl info_four) rfl ⟨?_, ?_⟩
  · rw [HU.out]; rfl
  · refine HB.out.trans ⟨rfl, rfl, rfl, by simp, fun k hk => ?_⟩
    rw [setRow_other _ _ k _ (by omega), setRow_other _ _ k _ (by omega)]
end Go.Proofs.Ythfbjgdigdlliaa.Sip
