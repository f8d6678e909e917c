/- Chapter 09: a list of members is the same as itself. -/
import Derived.Test.YtmlaackdcnpjmaaDoorMt09
import Derived.Test.YtmlaackdcnpjmaaDoorNew09
import Derived.Test.YtmlaackdcnpjmaaDoorPin2
namespace Go.Proofs.YtmlaackdcnpjmaaDoor.Skp
open Go Go.RowKit Go.Proofs.YtmlaackdcnpjmaaDoor.Pin Go.Proofs.YtmlaackdcnpjmaaDoor.Flt
theorem same_scored_self (x : Sc) (w : World) : Calls Tryd.prog 17 #[.agg #[.string x.1, .float .f64 x.2], .agg #[.string x.1, .float .f64 x.2]] w fun e w' => e = .returned (.bool true) ∧ Below w.heap.size w w' := by
  obtain ⟨a, i⟩ := x
  have HF := Lib.hid (fun w => same_float_self i w)
  have hq : (a.toList == a.toList) = true := by simp
  go_enter Tryd.func17, Tryd.ntmps17
  go_wp2_with fail
  refine (HF.out _).mono ?_
  rintro e w' ⟨rfl, rfl⟩
  go_wp2_with fail
  go_ret
  exact ⟨rfl, ((Below.refl _ _).alloc (Nat.le_refl _) _).alloc (by simp) _⟩
set_option maxHeartbeats 2000000 in
set_option maxRecDepth 100000 in
theorem same_scoreds_self (l : List Sc) (v u : Value) (w : World) (hT : MemsAt w w.heap.size v l) (hU : MemsAt w w.heap.size u l) (hl : l.length ≤ 140737488351232) :
    Calls Tryd.prog 11 #[v, u] w fun e w' => e = .returned (.bool true) ∧ Below w.heap.size w w' := by
  obtain ⟨A, c, rfl, hT⟩ := hT
  obtain ⟨E, d, rfl, hU⟩ := hU
  obtain ⟨L, hL⟩ : ∃ L, L = l.length := ⟨_, rfl⟩
  have HL := Lib.hid hL
  rw [← hL]
  rw [← hL] at hl
  have HT := Lib.hid hT
  have HU := Lib.hid hU
  clear hL hT hU
  go_enter Tryd.func11, Tryd.ntmps11
  go_wp2_with fail
  go_loopw [5] (fun i wr => ∃ k : Nat, k ≤ L ∧ i = .int .i64 k ∧ Hid (Below w.heap.size w wr)) (fun i _ => L - (intOf i).toNat)
  case atStart => exact ⟨0, Nat.zero_le _, rfl, Lib.hid (Below.refl _ _)⟩
  case round =>
    obtain ⟨k, hk, rfl, HB⟩ := hrel
    by_cases hlt : (k : Int) < (L : Int)
    · have hkl : k < l.length := by have := HL.out; omega
      obtain ⟨r, o, rfl, hr, hc⟩ := HT.out (by omega)
      obtain ⟨p, q, rfl, hp, hd⟩ := HU.out (by omega)
      obtain ⟨x, hx⟩ : ∃ x, x = l[k] := ⟨_, rfl⟩
      have hck := hc k hkl
      have hdk := hd k hkl
      rw [← hx] at hck hdk
      have x1 : wr.cell? ⟨r, o + k * 2, none⟩ = some (.string x.1) := (HB.out.cell (p := ⟨r, _, none⟩) hr).trans hck.1
      have x2 : wr.cell? ⟨r, o + k * 2 + 1, none⟩ = some (.float .f64 x.2) := (HB.out.cell (p := ⟨r, _, none⟩) hr).trans hck.2
      have y1 : wr.cell? ⟨p, q + k * 2, none⟩ = some (.string x.1) := (HB.out.cell (p := ⟨p, _, none⟩) hp).trans hdk.1
      have y2 : wr.cell? ⟨p, q + k * 2 + 1, none⟩ = some (.float .f64 x.2) := (HB.out.cell (p := ⟨p, _, none⟩) hp).trans hdk.2
      have HC := Lib.hid (fun n => same_scored_self x (wr.drewN n))
      clear hx hc hd hck hdk
      go_wp2_with fail
      refine wp_region_q [0,0,0,1,0,0,0,1,2,0] (by kernel_rfl) (by kernel_rfl) ?_
      (refine q_pure_n rfl (fun K hK => ?_); go_simp; refine hK _ _ ?_; clear hK K)
      (refine q_pure_n rfl (fun K hK => ?_); go_simp; refine hK _ _ ?_; clear hK K)
      (refine q_pure_n rfl (fun K hK => ?_); go_simp; refine hK _ _ ?_; clear hK K)
      (refine q_read_n rfl (fun K hK => ?_); go_simp; refine hK _ _ ?_; clear hK K)
      (refine q_pure_n rfl (fun K hK => ?_); go_simp; refine hK _ _ ?_; clear hK K)
      (refine q_pure_n rfl (fun K hK => ?_); go_simp; refine hK _ _ ?_; clear hK K)
      (refine q_pure_n rfl (fun K hK => ?_); go_simp; refine hK _ _ ?_; clear hK K)
      (refine q_read_n rfl (fun K hK => ?_); go_simp; refine hK _ _ ?_; clear hK K)
      (refine q_write_n rfl (fun K hK => ?_); go_simp; intro nw; refine ((HC.out _)).mono ?_; rintro e w3 ⟨rfl, hb3⟩; obtain ⟨w3, rfl⟩ : ∃ w5, w3 = World.drewN w5 0 := ⟨w3, rfl⟩; have HB3 : Hid (Below w.heap.size w w3) := Lib.hid ((below_drewN HB.out _).trans (hb3.mono HB.out.size)); clear hb3; refine ⟨_, rfl, _, ⟨_, rfl⟩, hK _ _ ?_⟩; clear hK K)
      (refine q_pure_n rfl (fun K hK => ?_); go_simp; refine hK _ _ ?_; clear hK K)
      refine q_nil ?_
      intro nq
      go_wp2_with fail
      exact ⟨⟨k + 1, by omega, by go_num, Lib.hid (below_drewN HB3.out _)⟩, by simp [intOf]; omega⟩
    · go_wp2_with fail
      go_ret
      exact ⟨rfl, HB.out⟩
end Go.Proofs.YtmlaackdcnpjmaaDoor.Skp
