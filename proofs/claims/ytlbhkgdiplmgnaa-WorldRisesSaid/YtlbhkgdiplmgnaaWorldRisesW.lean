/- The walk of the statement WorldRises: it returns true. -/
import Derived.Test.YtlbhkgdiplmgnaaTells
namespace Go.Proofs.Ytlbhkgdiplmgnaa.WorldRises
open Go.RowKit Go.Proofs.Ytlbhkgdiplmgnaa.Pin Go.Proofs.Ytlbhkgdiplmgnaa.Wld

theorem ok_max {n m : Int} (h0 : 0 ≤ n) (h1 : n ≤ 9007199254740992) (h : okT m = true) : n ≤ max m n ∧ max m n ≤ 9007199254740992 := by
  simp [okT] at h
  omega

set_option maxHeartbeats 2000000 in
theorem walk (p : Option Addr) (len cap : Nat) (w : World) (hl : len ≤ 9223372036854775807) (ht : Tells w p len) :
    Calls Try.prog 6 #[.slice p len cap] w fun e w' => e = .returned (.bool true) ∧ Below w.heap.size w w' := by
  have HT := Lib.hid ht
  clear ht
  go_enter Try.func6, Try.ntmps6
  go_wp2_with fail
  refine (new_good 0 _ (by decide)).mono ?_
  rintro e w1 ⟨rfl, rfl⟩
  obtain ⟨w1, hw1⟩ : ∃ w1, w1 = born w 0 := ⟨_, rfl⟩
  have h1 := Lib.hid (born_wd w 0)
  have b1 := Lib.hid (below_born w 0)
  rw [← hw1] at h1 b1 ⊢
  clear hw1
  obtain ⟨B, hB⟩ : ∃ B, B = w.heap.size := ⟨_, rfl⟩
  rw [← hB] at h1 b1 ⊢
  have hBl := Lib.hid hB
  clear hB
  go_wp2_with fail
  go_loopw [5, 6] (fun was i wr => ∃ (k : Nat) (n o : Int), k ≤ len ∧ i = .int .i64 k ∧ was = .int .i64 n ∧ 0 ≤ n ∧ n ≤ 9007199254740992 ∧ Hid (Wd wr B n o) ∧ Hid (Below B w wr)) (fun _ i _ => len - (intOf i).toNat)
  case atStart => exact ⟨0, 0, 0, by omega, rfl, rfl, by omega, by omega, h1, b1⟩
  case round =>
    obtain ⟨k, n, o, hk, rfl, rfl, h0, h9, HD, HB⟩ := hrel
    clear h1 b1
    by_cases hlt : k < len
    · obtain ⟨g, of, m, d, rfl, hg, hc0, hc1⟩ := HT.out k hlt
      rw [← hBl.out] at hg
      rw [← HB.out.cell (p := ⟨g, of + k * 2, none⟩) hg] at hc0
      rw [← HB.out.cell (p := ⟨g, of + k * 2 + 1, none⟩) hg] at hc1
      go_wp2_with fail
      cases hm : okT m with
      | true =>
        have HM := Lib.hid hm
        clear hm
        refine wp_region_pin [0,0,0,0,0,1,0,0,0,0,1,2] (by kernel_rfl) (by kernel_rfl) ?_
        (refine pin_pure (fun K hK => ?_); go_simp; refine hK _ _ ?_; clear hK K)
        (refine pin_pure (fun K hK => ?_); go_simp; refine hK _ _ ?_; clear hK K)
        (refine pin_pure (fun K hK => ?_); go_simp; refine hK _ _ ?_; clear hK K)
        (refine pin_pure (fun K hK => ?_); go_simp; refine hK _ _ ?_; clear hK K)
        (refine pin_pure (fun K hK => ?_); go_simp; refine hK _ _ ?_; clear hK K)
        (refine pin_read (fun K hK => ?_); go_simp; refine hK _ _ ?_; clear hK K)
        (refine pin_pure (fun K hK => ?_); go_simp; refine hK _ _ ?_; clear hK K)
        (refine pin_pure (fun K hK => ?_); go_simp; refine hK _ _ ?_; clear hK K)
        (refine pin_pure (fun K hK => ?_); go_simp; refine hK _ _ ?_; clear hK K)
        (refine pin_pure (fun K hK => ?_); go_simp; refine hK _ _ ?_; clear hK K)
        (refine pin_read (fun K hK => ?_); go_simp; refine hK _ _ ?_; clear hK K)
        (refine pin_write (fun K hK => ?_); go_simp; intro nw; refine (tell_good B n o m d _ (HD.out.drewN _) HM.out).mono ?_; rintro e w1 ⟨rfl, k1, rfl⟩; rw [told_drewN, World.drewN_drewN]; refine ⟨_, rfl, _, ⟨_, rfl⟩, hK _ _ ?_⟩; clear hK K)
        refine pin_nil ?_
        intro nq
        have hN := Lib.hid (ok_max h0 h9 HM.out)
        have HD2 := Lib.hid (HD.out.told (max m n) d)
        have HB2 := Lib.hid (below_told HB.out (Nat.le_refl _) (max m n) d)
        obtain ⟨n', hn'⟩ : ∃ n', n' = max m n := ⟨_, rfl⟩
        obtain ⟨W, hW⟩ : ∃ W, W = told wr B (max m n) d := ⟨_, rfl⟩
        rw [← hW] at HD2 HB2 ⊢
        rw [← hn'] at hN HD2
        clear hW HB HD hn'
        obtain ⟨h2, h3⟩ := hN.out
        go_wp2_with fail
        refine (now_some B n' d _ (HD2.out.drewN _)).mono ?_
        rintro e w3 ⟨rfl, rfl⟩
        go_wp2_with fail
        refine (now_some B n' d _ (HD2.out.drewN _)).mono ?_
        rintro e w3 ⟨rfl, rfl⟩
        go_wp2_with fail
        refine (now_some B n' d _ (HD2.out.drewN _)).mono ?_
        rintro e w3 ⟨rfl, rfl⟩
        go_wp2_with fail
        go_roundw
        case measure => simp [intOf]; omega
        case rel => exact ⟨k + 1, n', d, by omega, by go_num, rfl, by omega, h3, Lib.hid (HD2.out.drewN _), Lib.hid (below_drewN HB2.out _)⟩
      | false =>
        have HM := Lib.hid hm
        clear hm
        refine wp_region_pin [0,0,0,0,0,1,0,0,0,0,1,1] (by kernel_rfl) (by kernel_rfl) ?_
        (refine pin_pure (fun K hK => ?_); go_simp; refine hK _ _ ?_; clear hK K)
        (refine pin_pure (fun K hK => ?_); go_simp; refine hK _ _ ?_; clear hK K)
        (refine pin_pure (fun K hK => ?_); go_simp; refine hK _ _ ?_; clear hK K)
        (refine pin_pure (fun K hK => ?_); go_simp; refine hK _ _ ?_; clear hK K)
        (refine pin_pure (fun K hK => ?_); go_simp; refine hK _ _ ?_; clear hK K)
        (refine pin_read (fun K hK => ?_); go_simp; refine hK _ _ ?_; clear hK K)
        (refine pin_pure (fun K hK => ?_); go_simp; refine hK _ _ ?_; clear hK K)
        (refine pin_pure (fun K hK => ?_); go_simp; refine hK _ _ ?_; clear hK K)
        (refine pin_pure (fun K hK => ?_); go_simp; refine hK _ _ ?_; clear hK K)
        (refine pin_pure (fun K hK => ?_); go_simp; refine hK _ _ ?_; clear hK K)
        (refine pin_read (fun K hK => ?_); go_simp; refine hK _ _ ?_; clear hK K)
        (refine pin_read (fun K hK => ?_); go_simp; apply Exists.intro; refine ⟨fun nw => ?_, hK _ _ ?_⟩; (exact read_same (tell_bad B n o m d _ (HD.out.drewN _) HM.out)); clear hK K)
        refine pin_nil ?_
        intro nq
        go_wp2_with fail
        refine (now_some B n o _ (HD.out.drewN _)).mono ?_
        rintro e w3 ⟨rfl, rfl⟩
        go_wp2_with fail
        refine (now_some B n o _ (HD.out.drewN _)).mono ?_
        rintro e w3 ⟨rfl, rfl⟩
        go_wp2_with fail
        refine (now_some B n o _ (HD.out.drewN _)).mono ?_
        rintro e w3 ⟨rfl, rfl⟩
        go_wp2_with fail
        go_roundw
        case measure => simp [intOf]; omega
        case rel => exact ⟨k + 1, n, o, by omega, by go_num, rfl, h0, h9, Lib.hid (HD.out.drewN _), Lib.hid (below_drewN HB.out _)⟩
    · clear HT
      go_wp2_with fail
      refine (lives_any _).mono ?_
      rintro e w3 ⟨rfl, b3⟩
      go_wp2_with fail
      go_ret
      exact ⟨rfl, by rw [← hBl.out]; exact HB.out.trans (b3.mono (by rw [hBl.out]; exact HB.out.size))⟩
end Go.Proofs.Ytlbhkgdiplmgnaa.WorldRises
