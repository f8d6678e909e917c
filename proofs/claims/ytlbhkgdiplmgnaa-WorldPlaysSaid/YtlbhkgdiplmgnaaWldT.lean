/- Chapter 3: telling a world, reading it, and the picks. -/
import Derived.Test.YtlbhkgdiplmgnaaWld
namespace Go.Proofs.Ytlbhkgdiplmgnaa.Wld
open Go.RowKit Go.Proofs.Ytlbhkgdiplmgnaa.Pin

/-- how a world stands behind a telling -/
def told (w : World) (b : Nat) (n d : Int) : World := (w.setCell ⟨b, 1, none⟩ (.int .i64 n)).setCell ⟨b, 2, none⟩ (.int .u32 d)

theorem tell_none (m d : Int) (w : World) : Calls Try.prog 9 #[.pointer none, .int .i64 m, .int .u32 d] w fun e w' => e = .returned (.int .i64 2) ∧ w = w' := by
  go_enter Try.func9, Try.ntmps9
  go_wp2_with fail
  refine (there_none _).mono ?_
  rintro e w1 ⟨rfl, rfl⟩
  go_wp2_with fail
  go_ret
  exact ⟨rfl, rfl⟩
theorem tell_unmade (b : Nat) (m d : Int) (w : World) (h : w.cell? ⟨b, 0, none⟩ = some (.bool false)) : Calls Try.prog 9 #[.pointer (some ⟨b, 0, none⟩), .int .i64 m, .int .u32 d] w fun e w' => e = .returned (.int .i64 2) ∧ w = w' := by
  have H := Lib.hid h
  go_enter Try.func9, Try.ntmps9
  go_wp2_with fail
  refine (there_some b false _ H.out).mono ?_
  rintro e w1 ⟨rfl, rfl⟩
  go_wp2_with fail
  go_ret
  exact ⟨rfl, rfl⟩
theorem tell_bad (b : Nat) (n o m d : Int) (w : World) (h : Wd w b n o) (hm : okT m = false) : Calls Try.prog 9 #[.pointer (some ⟨b, 0, none⟩), .int .i64 m, .int .u32 d] w fun e w' => e = .returned (.int .i64 1) ∧ w = w' := by
  have H := Lib.hid h
  have HM := Lib.hid hm
  clear hm
  go_enter Try.func9, Try.ntmps9
  go_wp2_with fail
  refine (there_some b true _ H.out.c0).mono ?_
  rintro e w1 ⟨rfl, rfl⟩
  go_wp2_with fail
  refine (good_any _ _).mono ?_
  rintro e w1 ⟨rfl, rfl⟩
  rw [HM.out]
  go_wp2_with fail
  go_ret
  exact ⟨rfl, rfl⟩
set_option maxHeartbeats 400000 in
theorem tell_good (b : Nat) (n o m d : Int) (w : World) (h : Wd w b n o) (hm : okT m = true) : Calls Try.prog 9 #[.pointer (some ⟨b, 0, none⟩), .int .i64 m, .int .u32 d] w fun e w' => e = .returned (.int .i64 0) ∧ ∃ k, w' = (told w b (max m n) d).drewN k := by
  have H := Lib.hid h
  have HM := Lib.hid hm
  clear hm h
  go_enter Try.func9, Try.ntmps9
  go_wp2_with fail
  refine (there_some b true _ H.out.c0).mono ?_
  rintro e w1 ⟨rfl, rfl⟩
  go_wp2_with fail
  refine (good_any _ _).mono ?_
  rintro e w1 ⟨rfl, rfl⟩
  rw [HM.out]
  go_wp2_with fail
  refine wp_region_pin [0,0,0,0,0,0,0,1,0,2] (by kernel_rfl) (by kernel_rfl) ?_
  (refine pin_pure (fun K hK => ?_); go_simp; refine hK _ _ ?_; clear hK K)
  (refine pin_pure (fun K hK => ?_); go_simp; refine hK _ _ ?_; clear hK K)
  (refine pin_pure (fun K hK => ?_); go_simp; refine hK _ _ ?_; clear hK K)
  (refine pin_pure (fun K hK => ?_); go_simp; refine hK _ _ ?_; clear hK K)
  (refine pin_pure (fun K hK => ?_); go_simp; refine hK _ _ ?_; clear hK K)
  (refine pin_pure (fun K hK => ?_); go_simp; refine hK _ _ ?_; clear hK K)
  (refine pin_pure (fun K hK => ?_); go_simp; refine hK _ _ ?_; clear hK K)
  (refine pin_read (fun K hK => ?_); go_simp; apply Exists.intro; refine ⟨fun nw => ?_, hK _ _ ?_⟩; (exact read_same (load64 b 1 n _ (by go_simp; exact H.out.c1))); clear hK K)
  (refine pin_pure (fun K hK => ?_); go_simp; refine hK _ _ ?_; clear hK K)
  (refine pin_write (fun K hK => ?_); go_simp; intro nw; refine (store64 b 1 n _ _ (by go_simp; exact H.out.c1) (by go_simp; exact H.out.f1)).mono ?_; rintro e w1 ⟨rfl, rfl⟩; rw [setCell_drewN]; refine ⟨_, rfl, _, ⟨_, rfl⟩, hK _ _ ?_⟩; clear hK K)
  refine pin_nil ?_
  intro nq
  go_wp2_with fail
  refine (store32 b 2 o d _ (by go_simp; exact H.out.c2) (by go_simp; exact H.out.f2)).mono ?_
  rintro e w1 ⟨rfl, rfl⟩
  go_wp2_with fail
  go_ret
  exact ⟨rfl, _, rfl⟩

theorem Wd.drewN {w : World} {b : Nat} {n o : Int} (h : Wd w b n o) (k : Nat) : Wd (w.drewN k) b n o := ⟨h.c0, h.c1, h.c2, h.f1, h.f2⟩
theorem Wd.told {w : World} {b : Nat} {n o : Int} (h : Wd w b n o) (m d : Int) : Wd (told w b m d) b m d := by
  obtain ⟨h0, h1, h2, h3, h4⟩ := h
  constructor <;> unfold Wld.told <;> go_simp
theorem Wd.other {w : World} {b c : Nat} {n o : Int} (h : Wd w c n o) (hc : ¬ c = b) (m d : Int) : Wd (Wld.told w b m d) c n o := by
  obtain ⟨h0, h1, h2, h3, h4⟩ := h
  constructor <;> unfold Wld.told <;> go_simp
theorem below_told {B b : Nat} {a w : World} (h : Below B a w) (hb : B ≤ b) (m d : Int) : Below B a (told w b m d) :=
  (h.setCell hb _).setCell hb _
theorem told_drewN (w : World) (b : Nat) (m d : Int) (n : Nat) : told (w.drewN n) b m d = (told w b m d).drewN n := rfl

theorem now_none (w : World) : Calls Try.prog 11 #[.pointer none] w fun e w' => e = .returned (.int .i64 0) ∧ w = w' := by
  go_enter Try.func11, Try.ntmps11
  go_wp2_with fail
  refine (there_none _).mono ?_
  rintro e w1 ⟨rfl, rfl⟩
  go_wp2_with fail
  go_ret
  exact ⟨rfl, rfl⟩
theorem now_unmade (b : Nat) (w : World) (h : w.cell? ⟨b, 0, none⟩ = some (.bool false)) : Calls Try.prog 11 #[.pointer (some ⟨b, 0, none⟩)] w fun e w' => e = .returned (.int .i64 0) ∧ w = w' := by
  go_enter Try.func11, Try.ntmps11
  go_wp2_with fail
  refine (there_some b false _ h).mono ?_
  rintro e w1 ⟨rfl, rfl⟩
  go_wp2_with fail
  go_ret
  exact ⟨rfl, rfl⟩
theorem now_some (b : Nat) (n o : Int) (w : World) (h : Wd w b n o) : Calls Try.prog 11 #[.pointer (some ⟨b, 0, none⟩)] w fun e w' => e = .returned (.int .i64 n) ∧ w = w' := by
  have H := Lib.hid h
  clear h
  go_enter Try.func11, Try.ntmps11
  go_wp2_with fail
  refine (there_some b true _ H.out.c0).mono ?_
  rintro e w1 ⟨rfl, rfl⟩
  go_wp2_with fail
  refine (load64 b 1 n _ H.out.c1).mono ?_
  rintro e w1 ⟨rfl, rfl⟩
  go_wp2_with fail
  go_ret
  exact ⟨rfl, rfl⟩
theorem draw_none (w : World) : Calls Try.prog 13 #[.pointer none] w fun e w' => e = .returned (.int .u32 0) ∧ w = w' := by
  go_enter Try.func13, Try.ntmps13
  go_wp2_with fail
  refine (there_none _).mono ?_
  rintro e w1 ⟨rfl, rfl⟩
  go_wp2_with fail
  go_ret
  exact ⟨rfl, rfl⟩
theorem draw_unmade (b : Nat) (w : World) (h : w.cell? ⟨b, 0, none⟩ = some (.bool false)) : Calls Try.prog 13 #[.pointer (some ⟨b, 0, none⟩)] w fun e w' => e = .returned (.int .u32 0) ∧ w = w' := by
  go_enter Try.func13, Try.ntmps13
  go_wp2_with fail
  refine (there_some b false _ h).mono ?_
  rintro e w1 ⟨rfl, rfl⟩
  go_wp2_with fail
  go_ret
  exact ⟨rfl, rfl⟩
theorem draw_some (b : Nat) (n o : Int) (w : World) (h : Wd w b n o) : Calls Try.prog 13 #[.pointer (some ⟨b, 0, none⟩)] w fun e w' => e = .returned (.int .u32 o) ∧ w = w' := by
  have H := Lib.hid h
  clear h
  go_enter Try.func13, Try.ntmps13
  go_wp2_with fail
  refine (there_some b true _ H.out.c0).mono ?_
  rintro e w1 ⟨rfl, rfl⟩
  go_wp2_with fail
  refine (load32 b 2 o _ H.out.c2).mono ?_
  rintro e w1 ⟨rfl, rfl⟩
  go_wp2_with fail
  go_ret
  exact ⟨rfl, rfl⟩

/-- a world that is not there is made -/
theorem new_bad (n : Int) (w : World) (h : okT n = false) : Calls Try.prog 7 #[.int .i64 n] w fun e w' => e = .returned (.tuple #[.pointer none, .int .i64 1]) ∧ w = w' := by
  have H := Lib.hid h
  clear h
  go_enter Try.func7, Try.ntmps7
  go_wp2_with fail
  refine (good_any _ _).mono ?_
  rintro e w1 ⟨rfl, rfl⟩
  rw [H.out]
  go_wp2_with fail
  go_ret2
  exact ⟨rfl, rfl⟩
def born (w : World) (n : Int) : World := w.alloc (.cells #[.bool true, .int .i64 n, .int .u32 0] 49)
theorem new_good (n : Int) (w : World) (h : okT n = true) : Calls Try.prog 7 #[.int .i64 n] w fun e w' => e = .returned (.tuple #[.pointer (some ⟨w.heap.size, 0, none⟩), .int .i64 0]) ∧ born w n = w' := by
  have H := Lib.hid h
  clear h
  go_enter Try.func7, Try.ntmps7
  go_wp2_with fail
  refine (good_any _ _).mono ?_
  rintro e w1 ⟨rfl, rfl⟩
  rw [H.out]
  go_wp2_with fail
  refine (store64 w.heap.size 1 0 n _ (by go_simp) (by go_simp)).mono ?_
  rintro e w1 ⟨rfl, rfl⟩
  go_wp2_with fail
  go_ret2
  exact ⟨rfl, rfl⟩
theorem born_wd (w : World) (n : Int) : Wd (born w n) w.heap.size n 0 := by
  constructor <;> unfold born <;> go_simp
theorem below_born (w : World) (n : Int) : Below w.heap.size w (born w n) :=
  (Below.refl _ w).alloc (Nat.le_refl _) _

theorem wrap_pick (d n : Int) (hn : 1 ≤ n) (hn' : n ≤ 9223372036854775807) : wrap64 (d % n) = d % n := by
  have h2 : 0 ≤ d % n := Int.emod_nonneg _ (by omega)
  have h3 : d % n < n := Int.emod_lt_of_pos _ (by omega)
  unfold wrap64; omega
theorem pick_any (d n : Int) (w : World) (h0 : 0 ≤ d) (h1 : d < 4294967296) (hn' : n ≤ 9223372036854775807) :
    Calls Try.prog 16 #[.int .u32 d, .int .i64 n] w fun e w' => e = .returned (.tuple #[.int .i64 (if n < 1 then 0 else d % n), .bool (if n < 1 then false else true)]) ∧ w = w' := by
  by_cases hn : n < 1
  · rw [if_pos hn, if_pos hn]
    go_enter Try.func16, Try.ntmps16
    go_wp2
    go_ret2
    exact ⟨rfl, rfl⟩
  · rw [if_neg hn, if_neg hn]
    go_enter Try.func16, Try.ntmps16
    go_wp2
    rw [wrap_pick d n hn hn']
    go_ret2
    exact ⟨rfl, rfl⟩
theorem ref_pick (d n : Int) (w : World) (h0 : 0 ≤ d) (h1 : d < 4294967296) (hn' : n ≤ 9223372036854775807) :
    Calls Try.prog 17 #[.int .u32 d, .int .i64 n] w fun e w' => e = .returned (.tuple #[.int .i64 (if n < 1 then 0 else d % n), .bool (if n < 1 then false else true)]) ∧ w = w' := by
  by_cases hn : n < 1
  · rw [if_pos hn, if_pos hn]
    go_enter Try.func17, Try.ntmps17
    go_wp2
    go_ret2
    exact ⟨rfl, rfl⟩
  · rw [if_neg hn, if_neg hn]
    go_enter Try.func17, Try.ntmps17
    go_wp2
    rw [wrap_pick d n hn hn']
    go_ret2
    exact ⟨rfl, rfl⟩

set_option maxHeartbeats 1000000 in
theorem lives_any (w : World) : Calls Try.prog 15 #[] w fun e w' => e = .returned (.bool true) ∧ Below w.heap.size w w' := by
  go_enter Try.func15, Try.ntmps15
  go_wp2_with fail
  refine (new_good 5 _ (by decide)).mono ?_
  rintro e w1 ⟨rfl, rfl⟩
  obtain ⟨w1, hw1⟩ : ∃ w1, w1 = born w 5 := ⟨_, rfl⟩
  have h1 := Lib.hid (born_wd w 5)
  have b1 := Lib.hid (below_born w 5)
  rw [← hw1] at h1 b1 ⊢
  clear hw1
  go_wp2_with fail
  refine (tell_good _ 5 0 7 3 _ h1.out (by decide)).mono ?_
  rintro e w2 ⟨rfl, k2, rfl⟩
  obtain ⟨w2, hw2⟩ : ∃ w2, w2 = (told w1 w.heap.size (max 7 5) 3).drewN k2 := ⟨_, rfl⟩
  have h2 := Lib.hid ((h1.out.told (max 7 5) 3).drewN k2)
  have b2 := Lib.hid (below_drewN (below_told b1.out (Nat.le_refl _) (max 7 5) 3) k2)
  rw [← hw2] at h2 b2 ⊢
  clear hw2 h1 b1
  go_wp2_with fail
  refine (tell_good _ 7 3 6 4 _ h2.out (by decide)).mono ?_
  rintro e w3 ⟨rfl, k3, rfl⟩
  obtain ⟨w3, hw3⟩ : ∃ w3, w3 = (told w2 w.heap.size (max 6 7) 4).drewN k3 := ⟨_, rfl⟩
  have h3 := Lib.hid ((h2.out.told (max 6 7) 4).drewN k3)
  have b3 := Lib.hid (below_drewN (below_told b2.out (Nat.le_refl _) (max 6 7) 4) k3)
  rw [← hw3] at h3 b3 ⊢
  clear hw3 h2 b2
  go_wp2_with fail
  refine (pick_any 7 3 _ (by decide) (by decide) (by decide)).mono ?_
  rintro e w4 ⟨rfl, rfl⟩
  go_wp2_with fail
  refine (now_some _ 7 4 _ h3.out).mono ?_
  rintro e w4 ⟨rfl, rfl⟩
  go_wp2_with fail
  refine (draw_some _ 7 4 _ h3.out).mono ?_
  rintro e w4 ⟨rfl, rfl⟩
  go_wp2_with fail
  go_ret
  exact ⟨rfl, b3.out⟩

theorem wf_i64 {s : Int} (hw : (Lit.int .i64 s).wf = true) : -9223372036854775808 ≤ s ∧ s < 9223372036854775808 := by
  simp only [Lit.wf, IntKind.min, IntKind.max, IntKind.signed, IntKind.bits, Bool.and_eq_true] at hw
  simp at hw
  omega
theorem wf_u32 {s : Int} (hw : (Lit.int .u32 s).wf = true) : 0 ≤ s ∧ s < 4294967296 := by
  simp only [Lit.wf, IntKind.min, IntKind.max, IntKind.signed, IntKind.bits, Bool.and_eq_true] at hw
  simp at hw
  omega
end Go.Proofs.Ytlbhkgdiplmgnaa.Wld
