/- The walk of the statement WorldPlays: it returns true. -/
import Derived.Test.YtlbhkgdiplmgnaaWorldPlaysW
namespace Go.Proofs.Ytlbhkgdiplmgnaa.WorldPlays
open Go.RowKit Go.Proofs.Ytlbhkgdiplmgnaa.Pin Go.Proofs.Ytlbhkgdiplmgnaa.Wld

set_option maxHeartbeats 2000000 in
set_option maxRecDepth 100000 in
theorem walk_bad (now : Int) (p : Option Addr) (len cap : Nat) (w : World) (hl : len ≤ 9223372036854775807) (ht : Tells w p len) (hn : okT now = false) :
    Calls Try.prog 3 #[.int .i64 now, .slice p len cap] w fun e w' => e = .returned (.bool true) ∧ Below w.heap.size w w' := by
  have HT := Lib.hid ht
  have HN := Lib.hid hn
  clear ht hn
  go_enter Try.func3, Try.ntmps3
  go_wp2_with fail
  refine (new_bad now _ HN.out).mono ?_
  rintro e w1 ⟨rfl, rfl⟩
  go_wp2_with fail
  refine (rnew_bad now _ HN.out).mono ?_
  rintro e w1 ⟨rfl, rfl⟩
  go_wp2_with fail
  go_loopw [9] (fun i wr => ∃ (k m : Nat), k ≤ len ∧ k ≤ 1000 ∧ i = .int .i64 k ∧ wr = w.drewN m) (fun i _ => len - (intOf i).toNat)
  case atStart => exact ⟨0, 0, by omega, by omega, rfl, rfl⟩
  case round =>
    obtain ⟨k, q, hk, hk2, rfl, rfl⟩ := hrel
    by_cases hlt : k < len
    · by_cases hlt2 : k < 1000
      · obtain ⟨g, of, m, d, rfl, hg, hc0, hc1⟩ := HT.out k hlt
        go_wp2_with fail
        refine wp_region_pin [0,0,0,0,0,1,0,0,0,0,1,1,0,0,0,0,0,1,0,0,0,0,1,1,0,0,0,1,0,1,0,0,0,0,1,0,1,0,0] (by kernel_rfl) (by kernel_rfl) ?_
        (refine pin_pure (fun K hK => ?_); go_simp; refine hK _ _ ?_; clear hK K)
        (refine pin_pure (fun K hK => ?_); go_simp; refine hK _ _ ?_; clear hK K)
        (refine pin_pure (fun K hK => ?_); go_simp; refine hK _ _ ?_; clear hK K)
        (refine pin_pure (fun K hK => ?_); go_simp; refine hK _ _ ?_; clear hK K)
        (refine pin_pure (fun K hK => ?_); go_simp; refine hK _ _ ?_; clear hK K)
        (refine pin_read (fun K hK => ?_); go_simp; refine hK _ _ ?_; clear hK K)
        (refine pin_pure (fun K hK => ?_); go_simp; refine hK _ _ ?_; clear hK K)
        (refine pin_pure (fun K hK => ?_); go_simp; refine hK _ _ ?_; clear hK K)
        (refine pin_pure (fun K hK => ?_); go_simp; refine hK _ _ ?_; clear hK K)
        (refine pin_pure (fun K hK => ?_); go_simp; refine hK _ _ ?_; clear hK K)
        (refine pin_read (fun K hK => ?_); go_simp; refine hK _ _ ?_; clear hK K)
        (refine pin_read (fun K hK => ?_); go_simp; apply Exists.intro; refine ⟨fun nw => ?_, hK _ _ ?_⟩; (exact read_same_add (tell_none m d _)); clear hK K)
        (refine pin_pure (fun K hK => ?_); go_simp; refine hK _ _ ?_; clear hK K)
        (refine pin_pure (fun K hK => ?_); go_simp; refine hK _ _ ?_; clear hK K)
        (refine pin_pure (fun K hK => ?_); go_simp; refine hK _ _ ?_; clear hK K)
        (refine pin_pure (fun K hK => ?_); go_simp; refine hK _ _ ?_; clear hK K)
        (refine pin_pure (fun K hK => ?_); go_simp; refine hK _ _ ?_; clear hK K)
        (refine pin_read (fun K hK => ?_); go_simp; refine hK _ _ ?_; clear hK K)
        (refine pin_pure (fun K hK => ?_); go_simp; refine hK _ _ ?_; clear hK K)
        (refine pin_pure (fun K hK => ?_); go_simp; refine hK _ _ ?_; clear hK K)
        (refine pin_pure (fun K hK => ?_); go_simp; refine hK _ _ ?_; clear hK K)
        (refine pin_pure (fun K hK => ?_); go_simp; refine hK _ _ ?_; clear hK K)
        (refine pin_read (fun K hK => ?_); go_simp; refine hK _ _ ?_; clear hK K)
        (refine pin_read (fun K hK => ?_); go_simp; apply Exists.intro; refine ⟨fun nw => ?_, hK _ _ ?_⟩; (exact read_same_add (rtell_none m d _)); clear hK K)
        (refine pin_pure (fun K hK => ?_); go_simp; refine hK _ _ ?_; clear hK K)
        (refine pin_pure (fun K hK => ?_); go_simp; refine hK _ _ ?_; clear hK K)
        (refine pin_pure (fun K hK => ?_); go_simp; refine hK _ _ ?_; clear hK K)
        (refine pin_read (fun K hK => ?_); go_simp; apply Exists.intro; refine ⟨fun nw => ?_, hK _ _ ?_⟩; (exact read_same_add (now_none _)); clear hK K)
        (refine pin_pure (fun K hK => ?_); go_simp; refine hK _ _ ?_; clear hK K)
        (refine pin_read (fun K hK => ?_); go_simp; apply Exists.intro; refine ⟨fun nw => ?_, hK _ _ ?_⟩; (exact read_same_add (rnow_none _)); clear hK K)
        (refine pin_pure (fun K hK => ?_); go_simp; refine hK _ _ ?_; clear hK K)
        (refine pin_pure (fun K hK => ?_); go_simp; refine hK _ _ ?_; clear hK K)
        (refine pin_pure (fun K hK => ?_); go_simp; refine hK _ _ ?_; clear hK K)
        (refine pin_pure (fun K hK => ?_); go_simp; refine hK _ _ ?_; clear hK K)
        (refine pin_read (fun K hK => ?_); go_simp; apply Exists.intro; refine ⟨fun nw => ?_, hK _ _ ?_⟩; (exact read_same_add (draw_none _)); clear hK K)
        (refine pin_pure (fun K hK => ?_); go_simp; refine hK _ _ ?_; clear hK K)
        (refine pin_read (fun K hK => ?_); go_simp; apply Exists.intro; refine ⟨fun nw => ?_, hK _ _ ?_⟩; (exact read_same_add (rdraw_none _)); clear hK K)
        (refine pin_pure (fun K hK => ?_); go_simp; refine hK _ _ ?_; clear hK K)
        (refine pin_pure (fun K hK => ?_); go_simp; refine hK _ _ ?_; clear hK K)
        refine pin_nil ?_
        intro nq
        go_wp2_with fail
        go_roundw
        case measure => simp [intOf]; omega
        case rel => exact ⟨k + 1, _, by omega, by omega, by go_num, rfl⟩
      · clear HT
        go_wp2_with fail
        refine (lives_any _).mono ?_
        rintro e w3 ⟨rfl, b3⟩
        go_wp2_with fail
        go_ret
        exact ⟨rfl, (below_drewN (Below.refl _ w) q).trans b3⟩
    · clear HT
      go_wp2_with fail
      refine (lives_any _).mono ?_
      rintro e w3 ⟨rfl, b3⟩
      go_wp2_with fail
      go_ret
      exact ⟨rfl, (below_drewN (Below.refl _ w) q).trans b3⟩

set_option maxHeartbeats 4000000 in
set_option maxRecDepth 100000 in
theorem walk_good (now : Int) (p : Option Addr) (len cap : Nat) (w : World) (hl : len ≤ 9223372036854775807) (ht : Tells w p len) (hn : okT now = true) :
    Calls Try.prog 3 #[.int .i64 now, .slice p len cap] w fun e w' => e = .returned (.bool true) ∧ Below w.heap.size w w' := by
  have HT := Lib.hid ht
  have HN := Lib.hid hn
  clear ht hn
  go_enter Try.func3, Try.ntmps3
  go_wp2_with fail
  refine (new_good now _ HN.out).mono ?_
  rintro e w1 ⟨rfl, rfl⟩
  obtain ⟨w1, hw1⟩ : ∃ w1, w1 = born w now := ⟨_, rfl⟩
  have h1 := Lib.hid (born_wd w now)
  have b1 := Lib.hid (below_born w now)
  have l1 := Lib.hid (show w.heap.size < (born w now).heap.size by unfold born; go_simp)
  rw [← hw1] at h1 b1 l1 ⊢
  clear hw1
  obtain ⟨B, hB⟩ : ∃ B, B = w.heap.size := ⟨_, rfl⟩
  rw [← hB] at h1 b1 l1 ⊢
  have hBl := Lib.hid hB
  clear hB
  go_wp2_with fail
  refine (rnew_good now _ HN.out).mono ?_
  rintro e w2 ⟨rfl, rfl⟩
  obtain ⟨w2, hw2⟩ : ∃ w2, w2 = bornR w1 now := ⟨_, rfl⟩
  have h2 := Lib.hid (bornR_wd now h1.out l1.out)
  have r2 := Lib.hid (bornR_rd w1 now)
  have b2 := Lib.hid (show Below B w (bornR w1 now) from b1.out.alloc (Nat.le_of_lt l1.out) _)
  rw [← hw2] at h2 r2 b2 ⊢
  clear hw2 h1 b1
  obtain ⟨C, hC⟩ : ∃ C, C = w1.heap.size := ⟨_, rfl⟩
  rw [← hC] at l1 r2 ⊢
  clear hC
  go_wp2_with fail
  go_loopw [9] (fun i wr => ∃ (k : Nat) (n o : Int), k ≤ len ∧ k ≤ 1000 ∧ i = .int .i64 k ∧ Hid (Wd wr B n o) ∧ Hid (Rd wr C n o) ∧ Hid (Below B w wr)) (fun i _ => len - (intOf i).toNat)
  case atStart => exact ⟨0, now, 0, by omega, by omega, rfl, h2, r2, b2⟩
  case round =>
    obtain ⟨k, n, o, hk, hk2, rfl, HD, HR, HB⟩ := hrel
    clear h2 r2 b2
    by_cases hlt : k < len
    · by_cases hlt2 : k < 1000
      · obtain ⟨g, of, m, d, rfl, hg, hc0, hc1⟩ := HT.out k hlt
        rw [← hBl.out] at hg
        rw [← HB.out.cell (p := ⟨g, of + k * 2, none⟩) hg] at hc0
        rw [← HB.out.cell (p := ⟨g, of + k * 2 + 1, none⟩) hg] at hc1
        have HG := Lib.hid (show ¬ g = B by omega)
        have HG2 := Lib.hid (show ¬ g = C from fun e => by have := l1.out; omega)
        have HBC := Lib.hid (show ¬ C = B from fun e => by have := l1.out; omega)
        clear hg
        cases hm : okT m with
        | true =>
          have HM := Lib.hid hm
          clear hm
          have HC0 := Lib.hid hc0
          have HC1 := Lib.hid hc1
          have HR1 := Lib.hid (HR.out.other HBC.out (max m n) d)
          have HD3 := Lib.hid (Wd.otherR (HD.out.told (max m n) d) (fun e => HBC.out e.symm) n m d)
          have HR3 := Lib.hid (HR1.out.told m d)
          have HB3 := Lib.hid (below_toldR (below_told HB.out (Nat.le_refl _) (max m n) d) (Nat.le_of_lt l1.out) n m d)
          go_wp2_with fail
          refine wp_region_pinS (fun w => w.cell? ⟨g, of + k * 2, none⟩ = some (.int .i64 m) ∧ w.cell? ⟨g, of + k * 2 + 1, none⟩ = some (.int .u32 d)) [0,0,0,0,0,0,0,0,0,0,0,2,0,0,0,0,0,0,0,0,0,0,0,2,0,0,0,1,0,1,0,0,0,0,1,0,1,0,0] (by kernel_rfl) (by kernel_rfl) (fun _ _ h => h) (⟨HC0.out, HC1.out⟩) ?_
          (refine pin_pure (fun K hK => ?_); go_simp; refine hK _ _ ?_; clear hK K)
          (refine pin_pure (fun K hK => ?_); go_simp; refine hK _ _ ?_; clear hK K)
          (refine pin_pure (fun K hK => ?_); go_simp; refine hK _ _ ?_; clear hK K)
          (refine pin_pure (fun K hK => ?_); go_simp; refine hK _ _ ?_; clear hK K)
          (refine pin_pure (fun K hK => ?_); go_simp; refine hK _ _ ?_; clear hK K)
          (refine pin_fixed (fun K hK => ?_); go_simp; refine ⟨.int .i64 m, fun w => ?_, hK _ _ ?_⟩; (intros; go_simp); clear hK K)
          (refine pin_pure (fun K hK => ?_); go_simp; refine hK _ _ ?_; clear hK K)
          (refine pin_pure (fun K hK => ?_); go_simp; refine hK _ _ ?_; clear hK K)
          (refine pin_pure (fun K hK => ?_); go_simp; refine hK _ _ ?_; clear hK K)
          (refine pin_pure (fun K hK => ?_); go_simp; refine hK _ _ ?_; clear hK K)
          (refine pin_fixed (fun K hK => ?_); go_simp; refine ⟨.int .u32 d, fun w => ?_, hK _ _ ?_⟩; (intros; go_simp); clear hK K)
          (refine pin_writeS (fun K hK => ?_); go_simp; intro nw; refine (tell_good B n o m d _ (HD.out.drewN _) HM.out).mono ?_; rintro e w3 ⟨rfl, k1, rfl⟩; rw [told_drewN, World.drewN_drewN]; refine ⟨_, rfl, _, ⟨_, rfl⟩, hK _ _ ?_ ?_⟩; (exact ⟨by rw [cell_told HG.out]; exact HC0.out, by rw [cell_told HG.out]; exact HC1.out⟩); clear hK K)
          (refine pin_pure (fun K hK => ?_); go_simp; refine hK _ _ ?_; clear hK K)
          (refine pin_pure (fun K hK => ?_); go_simp; refine hK _ _ ?_; clear hK K)
          (refine pin_pure (fun K hK => ?_); go_simp; refine hK _ _ ?_; clear hK K)
          (refine pin_pure (fun K hK => ?_); go_simp; refine hK _ _ ?_; clear hK K)
          (refine pin_pure (fun K hK => ?_); go_simp; refine hK _ _ ?_; clear hK K)
          (refine pin_fixed (fun K hK => ?_); go_simp; refine ⟨.int .i64 m, fun w => ?_, hK _ _ ?_⟩; (intros; go_simp); clear hK K)
          (refine pin_pure (fun K hK => ?_); go_simp; refine hK _ _ ?_; clear hK K)
          (refine pin_pure (fun K hK => ?_); go_simp; refine hK _ _ ?_; clear hK K)
          (refine pin_pure (fun K hK => ?_); go_simp; refine hK _ _ ?_; clear hK K)
          (refine pin_pure (fun K hK => ?_); go_simp; refine hK _ _ ?_; clear hK K)
          (refine pin_fixed (fun K hK => ?_); go_simp; refine ⟨.int .u32 d, fun w => ?_, hK _ _ ?_⟩; (intros; go_simp); clear hK K)
          (refine pin_writeS (fun K hK => ?_); go_simp; intro nw; refine (rtell_good C n o m d _ (HR1.out.drewN _) HM.out).mono ?_; rintro e w3 ⟨rfl, rfl⟩; rw [toldR_drewN]; refine ⟨_, rfl, _, ⟨_, rfl⟩, hK _ _ ?_ ?_⟩; (exact ⟨by rw [cell_toldR HG2.out, cell_told HG.out]; exact HC0.out, by rw [cell_toldR HG2.out, cell_told HG.out]; exact HC1.out⟩); clear hK K)
          (refine pin_pure (fun K hK => ?_); go_simp; refine hK _ _ ?_; clear hK K)
          (refine pin_pure (fun K hK => ?_); go_simp; refine hK _ _ ?_; clear hK K)
          (refine pin_pure (fun K hK => ?_); go_simp; refine hK _ _ ?_; clear hK K)
          (refine pin_read (fun K hK => ?_); go_simp; apply Exists.intro; refine ⟨fun nw => ?_, hK _ _ ?_⟩; (exact read_same (now_some B (max m n) d _ (HD3.out.drewN _))); clear hK K)
          (refine pin_pure (fun K hK => ?_); go_simp; refine hK _ _ ?_; clear hK K)
          (refine pin_read (fun K hK => ?_); go_simp; apply Exists.intro; refine ⟨fun nw => ?_, hK _ _ ?_⟩; (exact read_same (rnow_some C (max m n) d _ (HR3.out.drewN _))); clear hK K)
          (refine pin_pure (fun K hK => ?_); go_simp; refine hK _ _ ?_; clear hK K)
          (refine pin_pure (fun K hK => ?_); go_simp; refine hK _ _ ?_; clear hK K)
          (refine pin_pure (fun K hK => ?_); go_simp; refine hK _ _ ?_; clear hK K)
          (refine pin_pure (fun K hK => ?_); go_simp; refine hK _ _ ?_; clear hK K)
          (refine pin_read (fun K hK => ?_); go_simp; apply Exists.intro; refine ⟨fun nw => ?_, hK _ _ ?_⟩; (exact read_same (draw_some B (max m n) d _ (HD3.out.drewN _))); clear hK K)
          (refine pin_pure (fun K hK => ?_); go_simp; refine hK _ _ ?_; clear hK K)
          (refine pin_read (fun K hK => ?_); go_simp; apply Exists.intro; refine ⟨fun nw => ?_, hK _ _ ?_⟩; (exact read_same (rdraw_some C (max m n) d _ (HR3.out.drewN _))); clear hK K)
          (refine pin_pure (fun K hK => ?_); go_simp; refine hK _ _ ?_; clear hK K)
          (refine pin_pure (fun K hK => ?_); go_simp; refine hK _ _ ?_; clear hK K)
          refine pin_nil ?_
          intro nq
          go_wp2_with fail
          go_roundw
          case measure => simp [intOf]; omega
          case rel => exact ⟨k + 1, max m n, d, by omega, by omega, by go_num, Lib.hid (HD3.out.drewN _), Lib.hid (HR3.out.drewN _), Lib.hid (below_drewN HB3.out _)⟩
        | false =>
          have HM := Lib.hid hm
          clear hm
          go_wp2_with fail
          refine wp_region_pin [0,0,0,0,0,1,0,0,0,0,1,1,0,0,0,0,0,1,0,0,0,0,1,1,0,0,0,1,0,1,0,0,0,0,1,0,1,0,0] (by kernel_rfl) (by kernel_rfl) ?_
          (refine pin_pure (fun K hK => ?_); go_simp; refine hK _ _ ?_; clear hK K)
          (refine pin_pure (fun K hK => ?_); go_simp; refine hK _ _ ?_; clear hK K)
          (refine pin_pure (fun K hK => ?_); go_simp; refine hK _ _ ?_; clear hK K)
          (refine pin_pure (fun K hK => ?_); go_simp; refine hK _ _ ?_; clear hK K)
          (refine pin_pure (fun K hK => ?_); go_simp; refine hK _ _ ?_; clear hK K)
          (refine pin_read (fun K hK => ?_); go_simp; refine hK _ _ ?_; clear hK K)
          (refine pin_pure (fun K hK => ?_); go_simp; refine hK _ _ ?_; clear hK K)
          (refine pin_pure (fun K hK => ?_); go_simp; refine hK _ _ ?_; clear hK K)
          (refine pin_pure (fun K hK => ?_); go_simp; refine hK _ _ ?_; clear hK K)
          (refine pin_pure (fun K hK => ?_); go_simp; refine hK _ _ ?_; clear hK K)
          (refine pin_read (fun K hK => ?_); go_simp; refine hK _ _ ?_; clear hK K)
          (refine pin_read (fun K hK => ?_); go_simp; apply Exists.intro; refine ⟨fun nw => ?_, hK _ _ ?_⟩; (exact read_same (tell_bad B n o m d _ (HD.out.drewN _) HM.out)); clear hK K)
          (refine pin_pure (fun K hK => ?_); go_simp; refine hK _ _ ?_; clear hK K)
          (refine pin_pure (fun K hK => ?_); go_simp; refine hK _ _ ?_; clear hK K)
          (refine pin_pure (fun K hK => ?_); go_simp; refine hK _ _ ?_; clear hK K)
          (refine pin_pure (fun K hK => ?_); go_simp; refine hK _ _ ?_; clear hK K)
          (refine pin_pure (fun K hK => ?_); go_simp; refine hK _ _ ?_; clear hK K)
          (refine pin_read (fun K hK => ?_); go_simp; refine hK _ _ ?_; clear hK K)
          (refine pin_pure (fun K hK => ?_); go_simp; refine hK _ _ ?_; clear hK K)
          (refine pin_pure (fun K hK => ?_); go_simp; refine hK _ _ ?_; clear hK K)
          (refine pin_pure (fun K hK => ?_); go_simp; refine hK _ _ ?_; clear hK K)
          (refine pin_pure (fun K hK => ?_); go_simp; refine hK _ _ ?_; clear hK K)
          (refine pin_read (fun K hK => ?_); go_simp; refine hK _ _ ?_; clear hK K)
          (refine pin_read (fun K hK => ?_); go_simp; apply Exists.intro; refine ⟨fun nw => ?_, hK _ _ ?_⟩; (exact read_same (rtell_bad C m d _ HM.out)); clear hK K)
          (refine pin_pure (fun K hK => ?_); go_simp; refine hK _ _ ?_; clear hK K)
          (refine pin_pure (fun K hK => ?_); go_simp; refine hK _ _ ?_; clear hK K)
          (refine pin_pure (fun K hK => ?_); go_simp; refine hK _ _ ?_; clear hK K)
          (refine pin_read (fun K hK => ?_); go_simp; apply Exists.intro; refine ⟨fun nw => ?_, hK _ _ ?_⟩; (exact read_same (now_some B n o _ (HD.out.drewN _))); clear hK K)
          (refine pin_pure (fun K hK => ?_); go_simp; refine hK _ _ ?_; clear hK K)
          (refine pin_read (fun K hK => ?_); go_simp; apply Exists.intro; refine ⟨fun nw => ?_, hK _ _ ?_⟩; (exact read_same (rnow_some C n o _ (HR.out.drewN _))); clear hK K)
          (refine pin_pure (fun K hK => ?_); go_simp; refine hK _ _ ?_; clear hK K)
          (refine pin_pure (fun K hK => ?_); go_simp; refine hK _ _ ?_; clear hK K)
          (refine pin_pure (fun K hK => ?_); go_simp; refine hK _ _ ?_; clear hK K)
          (refine pin_pure (fun K hK => ?_); go_simp; refine hK _ _ ?_; clear hK K)
          (refine pin_read (fun K hK => ?_); go_simp; apply Exists.intro; refine ⟨fun nw => ?_, hK _ _ ?_⟩; (exact read_same (draw_some B n o _ (HD.out.drewN _))); clear hK K)
          (refine pin_pure (fun K hK => ?_); go_simp; refine hK _ _ ?_; clear hK K)
          (refine pin_read (fun K hK => ?_); go_simp; apply Exists.intro; refine ⟨fun nw => ?_, hK _ _ ?_⟩; (exact read_same (rdraw_some C n o _ (HR.out.drewN _))); clear hK K)
          (refine pin_pure (fun K hK => ?_); go_simp; refine hK _ _ ?_; clear hK K)
          (refine pin_pure (fun K hK => ?_); go_simp; refine hK _ _ ?_; clear hK K)
          refine pin_nil ?_
          intro nq
          go_wp2_with fail
          go_roundw
          case measure => simp [intOf]; omega
          case rel => exact ⟨k + 1, n, o, by omega, by omega, by go_num, Lib.hid (HD.out.drewN _), Lib.hid (HR.out.drewN _), Lib.hid (below_drewN HB.out _)⟩
      · clear HT
        go_wp2_with fail
        refine (lives_any _).mono ?_
        rintro e w3 ⟨rfl, b3⟩
        go_wp2_with fail
        go_ret
        exact ⟨rfl, by rw [← hBl.out]; exact HB.out.trans (b3.mono (by rw [hBl.out]; exact HB.out.size))⟩
    · clear HT
      go_wp2_with fail
      refine (lives_any _).mono ?_
      rintro e w3 ⟨rfl, b3⟩
      go_wp2_with fail
      go_ret
      exact ⟨rfl, by rw [← hBl.out]; exact HB.out.trans (b3.mono (by rw [hBl.out]; exact HB.out.size))⟩

theorem walk (now : Int) (p : Option Addr) (len cap : Nat) (w : World) (hl : len ≤ 9223372036854775807) (ht : Tells w p len) :
    Calls Try.prog 3 #[.int .i64 now, .slice p len cap] w fun e w' => e = .returned (.bool true) ∧ Below w.heap.size w w' := by
  cases hn : okT now
  · exact walk_bad now p len cap w hl ht hn
  · exact walk_good now p len cap w hl ht hn
end Go.Proofs.Ytlbhkgdiplmgnaa.WorldPlays
