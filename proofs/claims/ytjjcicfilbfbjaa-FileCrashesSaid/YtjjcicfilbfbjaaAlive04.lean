/- Chapter 4's 'alive' answers true. -/
import Derived.Test.YtjjcicfilbfbjaaDk04
namespace Go.Proofs.Ytjjcicfilbfbjaa.Dsk
open Go.RowKit Go.Maps Go.Sort Go.Proofs.Ytjjcicfilbfbjaa.Pin Go.Proofs.Ytjjcicfilbfbjaa.Gon Go.Proofs.Ytjjcicfilbfbjaa.Mps

theorem new_no (w : World) : Calls Try.prog 8 #[.int .i64 (-1)] w fun e w' => e = .returned (.tuple #[.pointer none, .int .i64 1]) ∧ w = w' := by
  go_enter Try.func8, Try.ntmps8
  go_wp2_with fail
  go_ret2
  exact ⟨rfl, rfl⟩
theorem fine1 {C : Int} {nm b : ByteArray} {d : Nat} (h1 : nm.size ≤ 255) (h2 : d ≤ b.size) (h3 : (b.size : Int) ≤ C) (h4 : C ≤ 1073741824) : Fine C [(nm, b, d)] :=
  ⟨by simp, by simpa using h1, by simpa using h2, by simpa [tot] using h3, h4, by simp⟩
theorem fine0 {C : Int} (h3 : 0 ≤ C) (h4 : C ≤ 1073741824) : Fine C [] := ⟨by simp, by simp, by simp, by simpa [tot] using h3, h4, by simp⟩
theorem cat1 : (⟨#[120, 121, 122]⟩ : ByteArray) ++ ⟨#[117, 118, 119]⟩ = ⟨#[120, 121, 122, 117, 118, 119]⟩ := by kernel_rfl
theorem crash_one : crashAll [2] [((⟨#[97]⟩, ⟨#[120, 121, 122, 117, 118, 119]⟩, 3) : Abs)] = [(⟨#[97]⟩, ⟨#[120, 121, 122, 117, 118]⟩, 5)] := by
  have h : namesL [((⟨#[97]⟩, ⟨#[120, 121, 122, 117, 118, 119]⟩, 3) : Abs)] = [[97]] := by
    unfold namesL
    show [[97]].mergeSort leB = _
    simp
  unfold crashAll
  simp only [List.map_cons, List.map_nil, h]
  have e : crash1 [2] (List.idxOf (key ((⟨#[97]⟩, ⟨#[120, 121, 122, 117, 118, 119]⟩, 3) : Abs)) [[97]]) ((⟨#[97]⟩, ⟨#[120, 121, 122, 117, 118, 119]⟩, 3) : Abs) = (⟨#[97]⟩, ⟨#[120, 121, 122, 117, 118]⟩, 5) := by kernel_rfl
  rw [e]
set_option maxHeartbeats 2000000 in
set_option maxRecDepth 100000 in
theorem alive_any (w : World) : Calls Try.prog 7 #[] w fun e w' => e = .returned (.bool true) ∧ Below w.heap.size w w' := by
  go_enter Try.func7, Try.ntmps7
  go_wp2_with fail
  refine (new_d 10 w (by decide) (by decide)).mono ?_
  rintro e w1 ⟨g, rfl, hd, hb⟩
  have HD1 := Lib.hid hd
  have HB1 := Lib.hid hb
  clear hd hb
  go_wp2_with fail
  refine (new_no _).mono ?_
  rintro e w' ⟨rfl, rfl⟩
  go_wp2_with fail
  refine (append_n w.heap.size g 10 (-1) [] ⟨#[97]⟩ ⟨#[120, 121, 122]⟩ w1 HD1.out HB1.out.size (fine0 (by decide) (by decide)) (by simp) (by decide) (by decide) (by decide) (by decide) (by decide)).mono ?_
  rintro e w2 ⟨rfl, hd, hb⟩
  have HD2 : Hid (Dk w2 w.heap.size g 10 (-1) [(⟨#[97]⟩, ⟨#[120, 121, 122]⟩, 0)]) := Lib.hid hd
  have HB2 := Lib.hid (HB1.out.trans hb)
  clear hd hb
  go_wp2_with fail
  refine (sync_d w.heap.size g 10 (-1) [] (⟨#[97]⟩, ⟨#[120, 121, 122]⟩, 0) [] w2 HD2.out HB2.out.size (fine1 (by decide) (by decide) (by decide) (by decide)) (by decide) (by decide)).mono ?_
  rintro e w3 ⟨rfl, hd, hb⟩
  have HD3 : Hid (Dk w3 w.heap.size g 10 (-1) [(⟨#[97]⟩, ⟨#[120, 121, 122]⟩, 3)]) := Lib.hid hd
  have HB3 := Lib.hid (HB2.out.trans hb)
  clear hd hb
  go_wp2_with fail
  refine (append_d w.heap.size g 10 (-1) [] (⟨#[97]⟩, ⟨#[120, 121, 122]⟩, 3) [] ⟨#[117, 118, 119]⟩ w3 HD3.out HB3.out.size (fine1 (by decide) (by decide) (by decide) (by decide)) (by decide) (by decide) (by decide) (by decide)).mono ?_
  rintro e w4 ⟨rfl, hd, hb⟩
  have HD4 : Hid (Dk w4 w.heap.size g 10 (-1) [(⟨#[97]⟩, ⟨#[120, 121, 122, 117, 118, 119]⟩, 3)]) := by
    rw [← cat1]
    exact Lib.hid hd
  have HB4 := Lib.hid (HB3.out.trans hb)
  clear hd hb
  go_wp2_with fail
  refine (append_arg_d w.heap.size g 10 (-1) _ ⟨#[120]⟩ w4 HD4.out).mono ?_
  rintro e w' ⟨rfl, rfl⟩
  go_wp2_with fail
  refine (append_space_d w.heap.size g 10 (-1) _ ⟨#[97]⟩ ⟨#[49, 50, 51, 52, 53]⟩ w4 HD4.out (fine1 (by decide) (by decide) (by decide) (by decide)) (by decide) (by decide) (by decide) (by decide)).mono ?_
  rintro e w' ⟨rfl, m1, rfl⟩
  go_wp2_with fail
  refine (size_d w.heap.size g 10 (-1) _ (⟨#[97]⟩, ⟨#[120, 121, 122, 117, 118, 119]⟩, 3) (w4.drewN m1) (HD4.out.drewN m1) (fine1 (by decide) (by decide) (by decide) (by decide)) (by simp)).mono ?_
  rintro e w' ⟨rfl, m2, rfl⟩
  have e6 : (((⟨#[120, 121, 122, 117, 118, 119]⟩ : ByteArray).size : Nat) : Int) = 6 := by decide
  go_wp2_with fail
  refine (crash_d w.heap.size g 10 (-1) _ (some ⟨w4.heap.size, 0, none⟩) [2] 1 w4 _ HD4.out (below_drewN ((Below.refl _ w4).alloc (Nat.le_refl _) _) _) ?_ (fine1 (by decide) (by decide) (by decide) (by decide)) ?_ (by decide)).mono ?_
  · have := HB4.out.size
    simp [World.drewN]
    omega
  · intro own ho i hi
    obtain rfl : i = 0 := by simp at hi; omega
    refine ⟨w4.heap.size, 0, rfl, by simp [World.drewN], fun hm => ?_, ?_⟩
    · have := (ho _ hm).2
      omega
    · show (w4.alloc _).cell? ⟨w4.heap.size, 0, none⟩ = _
      simp
  rintro e w5 ⟨rfl, hd, hb⟩
  rw [crash_one] at hd
  have HD5 := Lib.hid hd
  have HB5 := Lib.hid hb
  clear hd hb
  go_wp2_with fail
  refine (read_d w.heap.size g 10 (-1) _ (⟨#[97]⟩, ⟨#[120, 121, 122, 117, 118]⟩, 5) w5 HD5.out (fine1 (by decide) (by decide) (by decide) (by decide)) (by simp)).mono ?_
  rintro e w' ⟨rfl, rfl⟩
  go_wp2_with fail
  have HB6 : Hid (Below w.heap.size w w5) := Lib.hid ((below_drewN (HB4.out.alloc HB4.out.size _) _).trans HB5.out)
  refine (fail_d w.heap.size g 10 (-1) 0 _ w5 HD5.out HB6.out.size).mono ?_
  rintro e w6 ⟨rfl, hd, hb⟩
  have HD7 := Lib.hid hd
  have HB7 := Lib.hid hb
  clear hd hb
  go_wp2_with fail
  refine (append_io_d w.heap.size g 10 _ ⟨#[97]⟩ ⟨#[]⟩ w6 HD7.out (by decide) (by decide)).mono ?_
  rintro e w' ⟨rfl, rfl⟩
  go_wp2_with fail
  go_ret
  exact ⟨rfl, HB6.out.trans HB7.out⟩
end Go.Proofs.Ytjjcicfilbfbjaa.Dsk
