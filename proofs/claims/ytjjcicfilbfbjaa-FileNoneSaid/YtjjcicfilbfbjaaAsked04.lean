/- The walks of beyond, asked and looks, at a disk that is not there. -/
import Derived.Test.YtjjcicfilbfbjaaTwin04
namespace Go.Proofs.Ytjjcicfilbfbjaa.Gon
open Go.RowKit Go.Proofs.Ytjjcicfilbfbjaa.Pin

/-- an op, as a value -/
abbrev opV (kd : Int) (a b : ByteArray) (n : Int) (p : Option Addr) (k c : Nat) : Value := .agg #[.int .u8 kd, .string a, .string b, .int .i64 n, .slice p k c]
abbrev opC (kd : Int) (a b : ByteArray) (n : Int) (p : Option Addr) (k c : Nat) : Array Value := #[.int .u8 kd, .string a, .string b, .int .i64 n, .slice p k c]

set_option maxHeartbeats 1000000 in
set_option maxRecDepth 100000 in
theorem beyond_one (g : Nat) (a b : ByteArray) (p : Option Addr) (k c : Nat) (w : World) (ha : a.size ≤ 140737488351232) (hb : b.size ≤ 140737488351232) (hk : k ≤ 140737488351232)
    (h1 : w.cell? ⟨g, 1, none⟩ = some (.string a)) (h2 : w.cell? ⟨g, 2, none⟩ = some (.string b)) (h4 : w.cell? ⟨g, 4, none⟩ = some (.slice p k c)) :
    Calls Try.prog 21 #[.slice (some ⟨g, 0, none⟩) 1 1] w fun e w' => e = .returned (.bool (decide (1048576 < 1 + a.size + b.size + k))) ∧ ∃ m, w' = w.drewN m := by
  go_enter Try.func21, Try.ntmps21
  go_wp2
  go_loopw [3, 4] (fun s i wr => (s = .int .i64 0 ∧ i = .int .i64 0 ∧ wr = w) ∨ (i = .int .i64 1 ∧ ¬ 1048576 < 1 + a.size + b.size + k ∧ ∃ m, wr = w.drewN m)) (fun _ i _ => 1 - (intOf i).toNat)
  case atStart => exact .inl ⟨rfl, rfl, rfl⟩
  case round =>
    rcases hrel with ⟨rfl, rfl, rfl⟩ | ⟨rfl, hno, m, rfl⟩
    · have e0 : (0 : Int) + 1 = 1 := rfl
      go_wp2_with fail
      refine wp_region_q [0,0,0,0,0,0,1,0,0,0,0,0,0,1,0,0,0,0,0,0,1,0,0,0] (by kernel_rfl) (by kernel_rfl) ?_
      (refine q_pure_n rfl (fun K hK => ?_); go_simp; refine hK _ _ ?_; clear hK K)
      (refine q_pure_n rfl (fun K hK => ?_); go_simp; refine hK _ _ ?_; clear hK K)
      (refine q_pure_n rfl (fun K hK => ?_); go_simp; refine hK _ _ ?_; clear hK K)
      (refine q_pure_n rfl (fun K hK => ?_); go_simp; refine hK _ _ ?_; clear hK K)
      (refine q_pure_n rfl (fun K hK => ?_); go_simp; refine hK _ _ ?_; clear hK K)
      (refine q_pure_n rfl (fun K hK => ?_); go_simp; refine hK _ _ ?_; clear hK K)
      (refine q_read_n rfl (fun K hK => ?_); go_simp; refine hK _ _ ?_; clear hK K)
      (refine q_pure_n rfl (fun K hK => ?_); go_simp; refine hK _ _ ?_; clear hK K)
      (refine q_pure_n rfl (fun K hK => ?_); go_simp; refine hK _ _ ?_; clear hK K)
      (refine q_pure_n rfl (fun K hK => ?_); go_simp; refine hK _ _ ?_; clear hK K)
      (refine q_pure_n rfl (fun K hK => ?_); go_simp; refine hK _ _ ?_; clear hK K)
      (refine q_pure_n rfl (fun K hK => ?_); go_simp; refine hK _ _ ?_; clear hK K)
      (refine q_pure_n rfl (fun K hK => ?_); go_simp; refine hK _ _ ?_; clear hK K)
      (refine q_read_n rfl (fun K hK => ?_); go_simp; refine hK _ _ ?_; clear hK K)
      (refine q_pure_n rfl (fun K hK => ?_); go_simp; refine hK _ _ ?_; clear hK K)
      (refine q_pure_n rfl (fun K hK => ?_); go_simp; refine hK _ _ ?_; clear hK K)
      (refine q_pure_n rfl (fun K hK => ?_); go_simp; refine hK _ _ ?_; clear hK K)
      (refine q_pure_n rfl (fun K hK => ?_); go_simp; refine hK _ _ ?_; clear hK K)
      (refine q_pure_n rfl (fun K hK => ?_); go_simp; refine hK _ _ ?_; clear hK K)
      (refine q_pure_n rfl (fun K hK => ?_); go_simp; refine hK _ _ ?_; clear hK K)
      (refine q_read_n rfl (fun K hK => ?_); go_simp; refine hK _ _ ?_; clear hK K)
      (refine q_pure_n rfl (fun K hK => ?_); go_simp; refine hK _ _ ?_; clear hK K)
      (refine q_pure_n rfl (fun K hK => ?_); go_simp; refine hK _ _ ?_; clear hK K)
      (refine q_pure_n rfl (fun K hK => ?_); go_simp; refine hK _ _ ?_; clear hK K)
      refine q_nil ?_
      intro nq
      by_cases hbig : 1048576 < 1 + a.size + b.size + k
      · have hbig' : (1048576 : Int) < 1 + (a.size : Int) + (b.size : Int) + (k : Int) := by omega
        go_wp2_with fail
        go_ret
        exact ⟨by simp [hbig], nq, rfl⟩
      · have hbig' : ¬ (1048576 : Int) < 1 + (a.size : Int) + (b.size : Int) + (k : Int) := by omega
        go_wp2_with fail
        exact ⟨.inr ⟨rfl, hbig, nq, rfl⟩, by simp [intOf]⟩
    · go_wp2_with fail
      go_ret
      exact ⟨by simp [hno], m, rfl⟩
theorem same_nil (w : World) : Calls Try.prog 19 #[.slice none 0 0, .slice none 0 0] w fun e w' => e = .returned (.bool true) ∧ w = w' := by
  go_enter Try.func19, Try.ntmps19
  go_wp2
  go_loop [5] (fun i => i = .int .i64 0) (fun _ => 0)
  case atStart => rfl
  case round =>
    obtain rfl := hrel
    go_wp2
    go_ret
    exact ⟨rfl, rfl⟩
set_option maxHeartbeats 2000000 in
set_option maxRecDepth 100000 in
theorem asked1 (d : Value) (a b : ByteArray) (n : Int) (p : Option Addr) (k c : Nat) (w : World) (hG : Gone w d) :
    Calls Try.prog 22 #[d, .pointer none, opV 1 a b n p k c] w fun e w' => e = .returned (.bool true) ∧ Below w.heap.size w w' := by
  have HG : Hid (Gone (w.alloc (.cells (opC 1 a b n p k c) 52)) d) := Lib.hid (hG.below ((Below.refl _ w).alloc (Nat.le_refl _) _))
  clear hG
  go_enter Try.func22, Try.ntmps22
  go_wp2_with fail
  refine wp_region_q [0,0,1,0,1,1,0,0,1,0,1,1,0,0] (by kernel_rfl) (by kernel_rfl) ?_
  (refine q_pure_n rfl (fun K hK => ?_); go_simp; refine hK _ _ ?_; clear hK K)
  (refine q_pure_n rfl (fun K hK => ?_); go_simp; refine hK _ _ ?_; clear hK K)
  (refine q_read_n rfl (fun K hK => ?_); go_simp; refine hK _ _ ?_; clear hK K)
  (refine q_pure_n rfl (fun K hK => ?_); go_simp; refine hK _ _ ?_; clear hK K)
  (refine q_read_n rfl (fun K hK => ?_); go_simp; refine hK _ _ ?_; clear hK K)
  (refine q_read_n rfl (fun K hK => ?_); go_simp; apply Exists.intro; refine ⟨fun nw => ?_, hK _ _ ?_⟩; (exact read_same (append_gone d a b _ (HG.out.drewN _))); clear hK K)
  (refine q_pure_n rfl (fun K hK => ?_); go_simp; refine hK _ _ ?_; clear hK K)
  (refine q_pure_n rfl (fun K hK => ?_); go_simp; refine hK _ _ ?_; clear hK K)
  (refine q_read_n rfl (fun K hK => ?_); go_simp; refine hK _ _ ?_; clear hK K)
  (refine q_pure_n rfl (fun K hK => ?_); go_simp; refine hK _ _ ?_; clear hK K)
  (refine q_read_n rfl (fun K hK => ?_); go_simp; refine hK _ _ ?_; clear hK K)
  (refine q_read_n rfl (fun K hK => ?_); go_simp; apply Exists.intro; refine ⟨fun nw => ?_, hK _ _ ?_⟩; (exact read_same (append_nil a b _)); clear hK K)
  (refine q_pure_n rfl (fun K hK => ?_); go_simp; refine hK _ _ ?_; clear hK K)
  (refine q_pure_n rfl (fun K hK => ?_); go_simp; refine hK _ _ ?_; clear hK K)
  refine q_nil ?_
  intro nq
  go_wp2_with fail
  go_ret
  exact ⟨rfl, below_drewN ((Below.refl _ w).alloc (Nat.le_refl _) _) nq⟩

set_option maxHeartbeats 2000000 in
set_option maxRecDepth 100000 in
theorem asked2 (d : Value) (a b : ByteArray) (n : Int) (p : Option Addr) (k c : Nat) (w : World) (hG : Gone w d) :
    Calls Try.prog 22 #[d, .pointer none, opV 2 a b n p k c] w fun e w' => e = .returned (.bool true) ∧ Below w.heap.size w w' := by
  have HG : Hid (Gone (w.alloc (.cells (opC 2 a b n p k c) 52)) d) := Lib.hid (hG.below ((Below.refl _ w).alloc (Nat.le_refl _) _))
  clear hG
  go_enter Try.func22, Try.ntmps22
  go_wp2_with fail
  refine wp_region_q [0,0,1,1,0,0,1,1,0,0] (by kernel_rfl) (by kernel_rfl) ?_
  (refine q_pure_n rfl (fun K hK => ?_); go_simp; refine hK _ _ ?_; clear hK K)
  (refine q_pure_n rfl (fun K hK => ?_); go_simp; refine hK _ _ ?_; clear hK K)
  (refine q_read_n rfl (fun K hK => ?_); go_simp; refine hK _ _ ?_; clear hK K)
  (refine q_read_n rfl (fun K hK => ?_); go_simp; apply Exists.intro; refine ⟨fun nw => ?_, hK _ _ ?_⟩; (exact read_same (sync_gone d a _ (HG.out.drewN _))); clear hK K)
  (refine q_pure_n rfl (fun K hK => ?_); go_simp; refine hK _ _ ?_; clear hK K)
  (refine q_pure_n rfl (fun K hK => ?_); go_simp; refine hK _ _ ?_; clear hK K)
  (refine q_read_n rfl (fun K hK => ?_); go_simp; refine hK _ _ ?_; clear hK K)
  (refine q_read_n rfl (fun K hK => ?_); go_simp; apply Exists.intro; refine ⟨fun nw => ?_, hK _ _ ?_⟩; (exact read_same (sync_nil a _)); clear hK K)
  (refine q_pure_n rfl (fun K hK => ?_); go_simp; refine hK _ _ ?_; clear hK K)
  (refine q_pure_n rfl (fun K hK => ?_); go_simp; refine hK _ _ ?_; clear hK K)
  refine q_nil ?_
  intro nq
  go_wp2_with fail
  go_ret
  exact ⟨rfl, below_drewN ((Below.refl _ w).alloc (Nat.le_refl _) _) nq⟩

set_option maxHeartbeats 2000000 in
set_option maxRecDepth 100000 in
theorem asked3 (d : Value) (a b : ByteArray) (n : Int) (p : Option Addr) (k c : Nat) (w : World) (hG : Gone w d) :
    Calls Try.prog 22 #[d, .pointer none, opV 3 a b n p k c] w fun e w' => e = .returned (.bool true) ∧ Below w.heap.size w w' := by
  have HG : Hid (Gone (w.alloc (.cells (opC 3 a b n p k c) 52)) d) := Lib.hid (hG.below ((Below.refl _ w).alloc (Nat.le_refl _) _))
  clear hG
  go_enter Try.func22, Try.ntmps22
  go_wp2_with fail
  refine wp_region_q [0,0,1,0,1,1,0,0,1,0,1,1,0,0] (by kernel_rfl) (by kernel_rfl) ?_
  (refine q_pure_n rfl (fun K hK => ?_); go_simp; refine hK _ _ ?_; clear hK K)
  (refine q_pure_n rfl (fun K hK => ?_); go_simp; refine hK _ _ ?_; clear hK K)
  (refine q_read_n rfl (fun K hK => ?_); go_simp; refine hK _ _ ?_; clear hK K)
  (refine q_pure_n rfl (fun K hK => ?_); go_simp; refine hK _ _ ?_; clear hK K)
  (refine q_read_n rfl (fun K hK => ?_); go_simp; refine hK _ _ ?_; clear hK K)
  (refine q_read_n rfl (fun K hK => ?_); go_simp; apply Exists.intro; refine ⟨fun nw => ?_, hK _ _ ?_⟩; (exact read_same (rename_gone d a b _ (HG.out.drewN _))); clear hK K)
  (refine q_pure_n rfl (fun K hK => ?_); go_simp; refine hK _ _ ?_; clear hK K)
  (refine q_pure_n rfl (fun K hK => ?_); go_simp; refine hK _ _ ?_; clear hK K)
  (refine q_read_n rfl (fun K hK => ?_); go_simp; refine hK _ _ ?_; clear hK K)
  (refine q_pure_n rfl (fun K hK => ?_); go_simp; refine hK _ _ ?_; clear hK K)
  (refine q_read_n rfl (fun K hK => ?_); go_simp; refine hK _ _ ?_; clear hK K)
  (refine q_read_n rfl (fun K hK => ?_); go_simp; apply Exists.intro; refine ⟨fun nw => ?_, hK _ _ ?_⟩; (exact read_same (rename_nil a b _)); clear hK K)
  (refine q_pure_n rfl (fun K hK => ?_); go_simp; refine hK _ _ ?_; clear hK K)
  (refine q_pure_n rfl (fun K hK => ?_); go_simp; refine hK _ _ ?_; clear hK K)
  refine q_nil ?_
  intro nq
  go_wp2_with fail
  go_ret
  exact ⟨rfl, below_drewN ((Below.refl _ w).alloc (Nat.le_refl _) _) nq⟩

set_option maxHeartbeats 2000000 in
set_option maxRecDepth 100000 in
theorem asked4 (d : Value) (a b : ByteArray) (n : Int) (p : Option Addr) (k c : Nat) (w : World) (hG : Gone w d) :
    Calls Try.prog 22 #[d, .pointer none, opV 4 a b n p k c] w fun e w' => e = .returned (.bool true) ∧ Below w.heap.size w w' := by
  have HG : Hid (Gone (w.alloc (.cells (opC 4 a b n p k c) 52)) d) := Lib.hid (hG.below ((Below.refl _ w).alloc (Nat.le_refl _) _))
  clear hG
  go_enter Try.func22, Try.ntmps22
  go_wp2_with fail
  refine wp_region_q [0,0,1,1,0,0,1,1,0,0] (by kernel_rfl) (by kernel_rfl) ?_
  (refine q_pure_n rfl (fun K hK => ?_); go_simp; refine hK _ _ ?_; clear hK K)
  (refine q_pure_n rfl (fun K hK => ?_); go_simp; refine hK _ _ ?_; clear hK K)
  (refine q_read_n rfl (fun K hK => ?_); go_simp; refine hK _ _ ?_; clear hK K)
  (refine q_read_n rfl (fun K hK => ?_); go_simp; apply Exists.intro; refine ⟨fun nw => ?_, hK _ _ ?_⟩; (exact read_same (remove_gone d a _ (HG.out.drewN _))); clear hK K)
  (refine q_pure_n rfl (fun K hK => ?_); go_simp; refine hK _ _ ?_; clear hK K)
  (refine q_pure_n rfl (fun K hK => ?_); go_simp; refine hK _ _ ?_; clear hK K)
  (refine q_read_n rfl (fun K hK => ?_); go_simp; refine hK _ _ ?_; clear hK K)
  (refine q_read_n rfl (fun K hK => ?_); go_simp; apply Exists.intro; refine ⟨fun nw => ?_, hK _ _ ?_⟩; (exact read_same (remove_nil a _)); clear hK K)
  (refine q_pure_n rfl (fun K hK => ?_); go_simp; refine hK _ _ ?_; clear hK K)
  (refine q_pure_n rfl (fun K hK => ?_); go_simp; refine hK _ _ ?_; clear hK K)
  refine q_nil ?_
  intro nq
  go_wp2_with fail
  go_ret
  exact ⟨rfl, below_drewN ((Below.refl _ w).alloc (Nat.le_refl _) _) nq⟩

set_option maxHeartbeats 2000000 in
set_option maxRecDepth 100000 in
theorem asked5 (d : Value) (a b : ByteArray) (n : Int) (p : Option Addr) (k c : Nat) (w : World) (hG : Gone w d) :
    Calls Try.prog 22 #[d, .pointer none, opV 5 a b n p k c] w fun e w' => e = .returned (.bool true) ∧ Below w.heap.size w w' := by
  have HG : Hid (Gone (w.alloc (.cells (opC 5 a b n p k c) 52)) d) := Lib.hid (hG.below ((Below.refl _ w).alloc (Nat.le_refl _) _))
  clear hG
  go_enter Try.func22, Try.ntmps22
  go_wp2_with fail
  refine wp_region_q [0,0,1,0,1,1,0,0,1,0,1,1,0,0] (by kernel_rfl) (by kernel_rfl) ?_
  (refine q_pure_n rfl (fun K hK => ?_); go_simp; refine hK _ _ ?_; clear hK K)
  (refine q_pure_n rfl (fun K hK => ?_); go_simp; refine hK _ _ ?_; clear hK K)
  (refine q_read_n rfl (fun K hK => ?_); go_simp; refine hK _ _ ?_; clear hK K)
  (refine q_pure_n rfl (fun K hK => ?_); go_simp; refine hK _ _ ?_; clear hK K)
  (refine q_read_n rfl (fun K hK => ?_); go_simp; refine hK _ _ ?_; clear hK K)
  (refine q_read_n rfl (fun K hK => ?_); go_simp; apply Exists.intro; refine ⟨fun nw => ?_, hK _ _ ?_⟩; (exact read_same (cut_gone d a n _ (HG.out.drewN _))); clear hK K)
  (refine q_pure_n rfl (fun K hK => ?_); go_simp; refine hK _ _ ?_; clear hK K)
  (refine q_pure_n rfl (fun K hK => ?_); go_simp; refine hK _ _ ?_; clear hK K)
  (refine q_read_n rfl (fun K hK => ?_); go_simp; refine hK _ _ ?_; clear hK K)
  (refine q_pure_n rfl (fun K hK => ?_); go_simp; refine hK _ _ ?_; clear hK K)
  (refine q_read_n rfl (fun K hK => ?_); go_simp; refine hK _ _ ?_; clear hK K)
  (refine q_read_n rfl (fun K hK => ?_); go_simp; apply Exists.intro; refine ⟨fun nw => ?_, hK _ _ ?_⟩; (exact read_same (cut_nil a n _)); clear hK K)
  (refine q_pure_n rfl (fun K hK => ?_); go_simp; refine hK _ _ ?_; clear hK K)
  (refine q_pure_n rfl (fun K hK => ?_); go_simp; refine hK _ _ ?_; clear hK K)
  refine q_nil ?_
  intro nq
  go_wp2_with fail
  go_ret
  exact ⟨rfl, below_drewN ((Below.refl _ w).alloc (Nat.le_refl _) _) nq⟩

set_option maxHeartbeats 2000000 in
set_option maxRecDepth 100000 in
theorem asked7 (d : Value) (a b : ByteArray) (n : Int) (p : Option Addr) (k c : Nat) (w : World) (hG : Gone w d) :
    Calls Try.prog 22 #[d, .pointer none, opV 7 a b n p k c] w fun e w' => e = .returned (.bool true) ∧ Below w.heap.size w w' := by
  have HG : Hid (Gone (w.alloc (.cells (opC 7 a b n p k c) 52)) d) := Lib.hid (hG.below ((Below.refl _ w).alloc (Nat.le_refl _) _))
  clear hG
  have HB : Hid (Below w.heap.size w (w.alloc (.cells (opC 7 a b n p k c) 52))) := Lib.hid ((Below.refl _ w).alloc (Nat.le_refl _) _)
  have hS0 : (w.alloc (.cells (opC 7 a b n p k c) 52)).cell? ⟨w.heap.size, 3, none⟩ = some (.int .i64 n) := by go_simp
  have HS := Lib.hid hS0
  clear hS0
  go_enter Try.func22, Try.ntmps22
  go_wp2_with fail
  refine wp_region_pinS (fun w' => w'.cell? ⟨w.heap.size, 3, none⟩ = some (.int .i64 n)) [0,0,0,2,0,0,0,1,0,0] (by kernel_rfl) (by kernel_rfl) (fun _ _ h => h) (HS.out) ?_
  (refine pin_pure (fun K hK => ?_); go_simp; refine hK _ _ ?_; clear hK K)
  (refine pin_pure (fun K hK => ?_); go_simp; refine hK _ _ ?_; clear hK K)
  (refine pin_fixed (fun K hK => ?_); go_simp; refine ⟨.int .i64 n, fun w => ?_, hK _ _ ?_⟩; (intros; go_simp); clear hK K)
  (refine pin_writeS (fun K hK => ?_); go_simp; intro nw; refine (fail_gone d n _ (HG.out.drewN _)).mono ?_; rintro e w1 ⟨rfl, b1⟩; obtain ⟨w2, rfl⟩ : ∃ w2, w1 = w2.drewN 0 := ⟨w1, rfl⟩; refine ⟨_, rfl, _, ⟨_, rfl⟩, hK _ _ ?_ ?_⟩; (exact (b1.cell (p := ⟨w.heap.size, 3, none⟩) (by show _ < (w.alloc _).heap.size; simp)).trans HS.out); clear hK K)
  (refine pin_pure (fun K hK => ?_); go_simp; refine hK _ _ ?_; clear hK K)
  (refine pin_pure (fun K hK => ?_); go_simp; refine hK _ _ ?_; clear hK K)
  (refine pin_fixed (fun K hK => ?_); go_simp; refine ⟨.int .i64 n, fun w => ?_, hK _ _ ?_⟩; (intros; go_simp); clear hK K)
  (refine pin_read (fun K hK => ?_); go_simp; apply Exists.intro; refine ⟨fun nw => ?_, hK _ _ ?_⟩; (exact read_same (fail_nil n _)); clear hK K)
  (refine pin_pure (fun K hK => ?_); go_simp; refine hK _ _ ?_; clear hK K)
  (refine pin_pure (fun K hK => ?_); go_simp; refine hK _ _ ?_; clear hK K)
  refine pin_nil ?_
  intro nq
  go_wp2_with fail
  go_ret
  exact ⟨rfl, below_drewN (HB.out.trans ((show Below (w.alloc (.cells (opC 7 a b n p k c) 52)).heap.size (w.alloc (.cells (opC 7 a b n p k c) 52)) w2 from ⟨b1.os, b1.tape, b1.output, b1.size, b1.block⟩).mono HB.out.size)) nq⟩

set_option maxHeartbeats 2000000 in
set_option maxRecDepth 100000 in
theorem asked8 (d : Value) (a b : ByteArray) (n : Int) (p : Option Addr) (k c : Nat) (w : World) (A : Nat → Int) (hk : k ≤ 1048576) (hI : Ints w p k A) (hG : Gone w d) :
    Calls Try.prog 22 #[d, .pointer none, opV 8 a b n p k c] w fun e w' => e = .returned (.bool true) ∧ Below w.heap.size w w' := by
  have HB : Hid (Below w.heap.size w (w.alloc (.cells (opC 8 a b n p k c) 52))) := Lib.hid ((Below.refl _ w).alloc (Nat.le_refl _) _)
  have HG := Lib.hid (hG.below HB.out)
  have HI := Lib.hid (hI.below HB.out)
  clear hG hI
  go_enter Try.func22, Try.ntmps22
  go_wp2_with fail
  refine (twin_any p k c A _ hk HI.out).mono ?_
  rintro e w1 ⟨g, rfl, hgB, hown, b1⟩
  have h4 : w1.cell? ⟨w.heap.size, 4, none⟩ = some (.slice p k c) := by rw [b1.cell (by simp)]; go_simp
  have HG1 := Lib.hid (HG.out.below b1)
  have HI1 := Lib.hid (HI.out.below b1)
  have HB1 := Lib.hid (HB.out.trans (b1.mono HB.out.size))
  have HT : Hid (∀ i, i < k → w1.cell? ⟨g, i, none⟩ = some (.int .i64 (A i))) := Lib.hid (fun i hi => by
    have := hown.cells (g := g) rfl i (.int .i64 (A i)) (by rw [List.getElem?_append_left (by simp [ints]; exact hi)]; simp [ints, hi])
    simpa only [Addr.add_lit, Nat.zero_add] using this)
  have HM : Hid (w1.cell? ⟨g, k, none⟩ = some (.int .i64 7777)) := Lib.hid (by
    have := hown.cells (g := g) rfl k (.int .i64 7777) (by rw [List.getElem?_append_right (by simp [ints])]; simp [ints])
    simpa only [Addr.add_lit, Nat.zero_add] using this)
  clear hown b1 hgB HB HI HG
  go_wp2_with fail
  refine wp_region_q [0,0,1,0,0,1,1,0,0,0,0,1,1,0,0] (by kernel_rfl) (by kernel_rfl) ?_
  (refine q_pure_n rfl (fun K hK => ?_); go_simp; refine hK _ _ ?_; clear hK K)
  (refine q_pure_n rfl (fun K hK => ?_); go_simp; refine hK _ _ ?_; clear hK K)
  (refine q_read_n rfl (fun K hK => ?_); go_simp; apply Exists.intro; refine ⟨fun nw => ?_, hK _ _ ?_⟩; (exact read_same (crash_gone d _ _ _ _ (HG1.out.drewN _))); clear hK K)
  (refine q_pure_n rfl (fun K hK => ?_); go_simp; refine hK _ _ ?_; clear hK K)
  (refine q_pure_n rfl (fun K hK => ?_); go_simp; refine hK _ _ ?_; clear hK K)
  (refine q_read_n rfl (fun K hK => ?_); go_simp; refine hK _ _ ?_; clear hK K)
  (refine q_read_n rfl (fun K hK => ?_); go_simp; apply Exists.intro; refine ⟨fun nw => ?_, hK _ _ ?_⟩; (exact read_same (crash_nil _ _ _ _)); clear hK K)
  (refine q_pure_n rfl (fun K hK => ?_); go_simp; refine hK _ _ ?_; clear hK K)
  (refine q_pure_n rfl (fun K hK => ?_); go_simp; refine hK _ _ ?_; clear hK K)
  first | (refine q_pure_x rfl ?hy (fun K hK => ?_); (case hy => rfl); go_simp; refine hK _ _ ?_; clear hK K) | (refine q_pure_y rfl ?hy (fun K hK => ?_); (case hy => rfl); go_simp; refine hK _ _ ?_; clear hK K)
  first | (refine q_pure_x rfl ?hy (fun K hK => ?_); (case hy => rfl); go_simp; refine hK _ _ ?_; clear hK K) | (refine q_pure_y rfl ?hy (fun K hK => ?_); (case hy => rfl); go_simp; refine hK _ _ ?_; clear hK K)
  first | (refine q_read_x rfl ?hy (fun K hK => ?_); (case hy => rfl); go_simp; refine hK _ _ ?_; clear hK K) | (refine q_read_y rfl ?hy (fun K hK => ?_); (case hy => rfl); go_simp; refine hK _ _ ?_; clear hK K)
  first | (refine q_read_x rfl ?hy (fun K hK => ?_); (case hy => rfl); go_simp; refine hK _ _ ?_; clear hK K) | (refine q_read_y rfl ?hy (fun K hK => ?_); (case hy => rfl); go_simp; apply Exists.intro; refine ⟨fun nw => ?_, hK _ _ ?_⟩; (exact read_drew (left_any g p k c A _ hk HT.out HM.out HI1.out)); clear hK K)
  (refine q_pure_n rfl (fun K hK => ?_); go_simp; refine hK _ _ ?_; clear hK K)
  (refine q_pure_n rfl (fun K hK => ?_); go_simp; refine hK _ _ ?_; clear hK K)
  refine q_nil ?_
  intro nq
  go_wp2_with fail
  go_ret
  exact ⟨rfl, below_drewN HB1.out nq⟩

set_option maxHeartbeats 2000000 in
set_option maxRecDepth 100000 in
theorem asked0 (d : Value) (kd : Int) (a b : ByteArray) (n : Int) (p : Option Addr) (k c : Nat) (w : World) (h1 : ¬ kd = 1) (h2 : ¬ kd = 2) (h3 : ¬ kd = 3) (h4 : ¬ kd = 4) (h5 : ¬ kd = 5) (h7 : ¬ kd = 7) (h8 : ¬ kd = 8) (hG : Gone w d) :
    Calls Try.prog 22 #[d, .pointer none, opV kd a b n p k c] w fun e w' => e = .returned (.bool true) ∧ Below w.heap.size w w' := by
  have HG : Hid (Gone (w.alloc (.cells (opC kd a b n p k c) 52)) d) := Lib.hid (hG.below ((Below.refl _ w).alloc (Nat.le_refl _) _))
  clear hG
  have q1 : (kd == 1) = false := beq_eq_false_iff_ne.2 h1
  have q2 : (kd == 2) = false := beq_eq_false_iff_ne.2 h2
  have q3 : (kd == 3) = false := beq_eq_false_iff_ne.2 h3
  have q4 : (kd == 4) = false := beq_eq_false_iff_ne.2 h4
  have q5 : (kd == 5) = false := beq_eq_false_iff_ne.2 h5
  have q7 : (kd == 7) = false := beq_eq_false_iff_ne.2 h7
  have q8 : (kd == 8) = false := beq_eq_false_iff_ne.2 h8
  clear h1 h2 h3 h4 h5 h7 h8
  go_enter Try.func22, Try.ntmps22
  go_wp2_with fail
  refine (read_gone d a _ HG.out).mono ?_
  rintro e w1 ⟨rfl, rfl⟩
  go_wp2_with fail
  refine (read_nil a _).mono ?_
  rintro e w1 ⟨rfl, rfl⟩
  go_wp2_with fail
  go_ret
  exact ⟨rfl, (Below.refl _ w).alloc (Nat.le_refl _) _⟩

theorem asked_gone (d : Value) (kd : Int) (a b : ByteArray) (n : Int) (p : Option Addr) (k c : Nat) (A : Nat → Int) (w : World) (hk : k ≤ 1048576) (hI : Ints w p k A) (hG : Gone w d) :
    Calls Try.prog 22 #[d, .pointer none, opV kd a b n p k c] w fun e w' => e = .returned (.bool true) ∧ Below w.heap.size w w' := by
  by_cases h1 : kd = 1
  · subst h1; exact asked1 d a b n p k c w hG
  by_cases h2 : kd = 2
  · subst h2; exact asked2 d a b n p k c w hG
  by_cases h3 : kd = 3
  · subst h3; exact asked3 d a b n p k c w hG
  by_cases h4 : kd = 4
  · subst h4; exact asked4 d a b n p k c w hG
  by_cases h5 : kd = 5
  · subst h5; exact asked5 d a b n p k c w hG
  by_cases h7 : kd = 7
  · subst h7; exact asked7 d a b n p k c w hG
  by_cases h8 : kd = 8
  · subst h8; exact asked8 d a b n p k c w A hk hI hG
  exact asked0 d kd a b n p k c w h1 h2 h3 h4 h5 h7 h8 hG

set_option maxHeartbeats 2000000 in
set_option maxRecDepth 100000 in
theorem looks_gone (d : Value) (kd : Int) (a b : ByteArray) (n : Int) (p : Option Addr) (k c : Nat) (w : World) (hG : Gone w d) :
    Calls Try.prog 23 #[d, .pointer none, opV kd a b n p k c] w fun e w' => e = .returned (.bool true) ∧ Below w.heap.size w w' := by
  have HB : Hid (Below w.heap.size w (w.alloc (.cells (opC kd a b n p k c) 52))) := Lib.hid ((Below.refl _ w).alloc (Nat.le_refl _) _)
  have HG := Lib.hid (hG.below HB.out)
  clear hG
  go_enter Try.func23, Try.ntmps23
  go_wp2_with fail
  refine (names_nil _).mono ?_
  rintro e w1 ⟨rfl, rfl⟩
  go_wp2_with fail
  refine (names_gone d _ HG.out).mono ?_
  rintro e w1 ⟨rfl, rfl⟩
  go_wp2_with fail
  refine (same_nil _).mono ?_
  rintro e w1 ⟨rfl, rfl⟩
  go_wp2_with fail
  refine (size_gone d a _ HG.out).mono ?_
  rintro e w1 ⟨rfl, rfl⟩
  go_wp2_with fail
  refine (size_nil a _).mono ?_
  rintro e w1 ⟨rfl, rfl⟩
  go_wp2_with fail
  go_loop [14] (fun i => i = .int .i64 0) (fun _ => 0)
  case atStart => rfl
  case round =>
    obtain rfl := hrel
    go_wp2_with fail
    go_ret
    exact ⟨rfl, HB.out⟩
end Go.Proofs.Ytjjcicfilbfbjaa.Gon

