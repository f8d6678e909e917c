/- Chapter 24: how much items have in them. Printed by gen_sizei24.py. -/
import Derived.Test.YtpnmhldaaaemeaaSizeV24
namespace Go.Proofs.Ytpnmhldaaaemeaa.Snp
open Go.RowKit Go.Proofs.Ytpnmhldaaaemeaa.Pin

def szIt (it : It) : Nat := it.key.size + szVa it.val
structure ItT (it : It) : Prop where
  key : it.key.size ≤ 140737488351232
  val : VaT it.val
set_option maxHeartbeats 4000000 in
set_option maxRecDepth 100000 in
theorem sz_items (l : List It) (v : Value) (w : World) (hT : ItemsAt w w.heap.size v l) (hl : l.length ≤ 140737488351232) (hB : ∀ it ∈ l, VaB it.val) (hI : ∀ it ∈ l, ItT it) : Sized 9 #[v] w 4503599627370496 (szBy szIt l) := by
  obtain ⟨A, c, rfl, hT⟩ := hT
  unfold Sized
  obtain ⟨L, hL⟩ : ∃ L, L = l.length := ⟨_, rfl⟩
  rw [← hL] at hl ⊢
  have HL := Lib.hid hL
  have HT := Lib.hid hT
  have HVB := Lib.hid hB
  have HIT := Lib.hid hI
  clear hL hT hB hI
  go_enter Try.func9, Try.ntmps9
  go_wp2_with fail
  go_loopw [3, 4] (fun v i wr => ∃ (k n : Nat), k ≤ L ∧ i = .int .i64 k ∧ v = .int .i64 (n : Int) ∧ n ≤ 4503599627370496 ∧ Hid (n ≤ 1048576 → n = szTo szIt l k) ∧ Hid (Below w.heap.size w wr)) (fun _ i _ => L - (intOf i).toNat)
  case atStart => exact ⟨0, L, by omega, rfl, rfl, by omega, Lib.hid (fun _ => by rw [szto_zero]; exact HL.out), Lib.hid (Below.refl _ _)⟩
  case round =>
    obtain ⟨k, n, hk, rfl, rfl, hn, HN, HB⟩ := hrel
    by_cases hlt : k < L
    · have hlt' : (k : Int) < (L : Int) := by omega
      by_cases hm : n ≤ 1048576
      · have hm' : (n : Int) ≤ 1048576 := by omega
        have hks : k < l.length := by rw [← HL.out]; exact hlt
        obtain ⟨r, o, rfl, hr, hc⟩ := HT.out (by have := HL.out; omega)
        obtain ⟨cl, hra, hva⟩ := hc k hks
        have hvb := HVB.out _ (List.getElem_mem hks)
        have hit := HIT.out _ (List.getElem_mem hks)
        obtain ⟨x, hx⟩ : ∃ x, x = l[k] := ⟨_, rfl⟩
        rw [← hx] at hra hva hvb hit
        have HX := Lib.hid hx
        have hra' : wr.rangeAt r (o + k * 12) (icells x cl) := fun j u hj => (HB.out.cell (p := ⟨r, _, none⟩) hr).trans (hra j u hj)
        have d1 : wr.cell? ⟨r, o + k * 12 + 1, none⟩ = some (.string x.key) := hra' 1 _ rfl
        have d2 : wr.cell? ⟨r, o + k * 12 + 2, none⟩ = some (.int .u8 (x.val.kind : Int)) := hra' 2 _ rfl
        have d3 : wr.cell? ⟨r, o + k * 12 + 3, none⟩ = some (.string x.val.text) := hra' 3 _ rfl
        have d4 : wr.cell? ⟨r, o + k * 12 + 4, none⟩ = some (cl.lv) := hra' 4 _ rfl
        have d5 : wr.cell? ⟨r, o + k * 12 + 5, none⟩ = some (cl.hv) := hra' 5 _ rfl
        have d6 : wr.cell? ⟨r, o + k * 12 + 6, none⟩ = some (cl.sv) := hra' 6 _ rfl
        have d7 : wr.cell? ⟨r, o + k * 12 + 7, none⟩ = some (cl.zv) := hra' 7 _ rfl
        have d8 : wr.cell? ⟨r, o + k * 12 + 8, none⟩ = some (cl.ev) := hra' 8 _ rfl
        have d9 : wr.cell? ⟨r, o + k * 12 + 9, none⟩ = some (.int .u64 (x.val.ms : Int)) := hra' 9 _ rfl
        have d10 : wr.cell? ⟨r, o + k * 12 + 10, none⟩ = some (.int .u64 (x.val.seq : Int)) := hra' 10 _ rfl
        have HC : Hid (∀ q, Sized 17 #[vV x.val cl] (wr.drewN q) 2251799813685248 (szVa x.val)) := Lib.hid (fun q => sz_value x.val cl _ ((hva.below (below_drewN HB.out q)).more (by have := HB.out.size; show _ ≤ wr.heap.size; omega)) hvb hit.val)
        have hkx := hit.key
        obtain ⟨m1, hm1⟩ : ∃ m, m = n + x.key.size := ⟨_, rfl⟩
        have hw1 : IntKind.i64.wrap ((n : Int) + (x.key.size : Int)) = (m1 : Int) := by rw [IntKind.wrap_i64]; omega
        have hm1b : m1 ≤ 140737489399808 := by omega
        have M1 := Lib.hid hm1
        have HRL := Lib.hid (show r < wr.heap.size by have := HB.out.size; omega)
        have HS := Lib.hid d1
        clear hx hra hra' hva hvb hit hc hkx hm1
        go_wp2_with fail
        refine wp_region_pinS (fun w' => w'.cell? ⟨r, o + k * 12 + 1, none⟩ = some (.string x.key)) [0,0,0,0,0,0,0,0,0,0,0,0,1,2,0,0] (by kernel_rfl) (by kernel_rfl) (fun _ _ h => h) (HS.out) ?_
        (refine pin_pure (fun K hK => ?_); go_simp; refine hK _ _ ?_; clear hK K)
        (refine pin_pure (fun K hK => ?_); go_simp; refine hK _ _ ?_; clear hK K)
        (refine pin_pure (fun K hK => ?_); go_simp; refine hK _ _ ?_; clear hK K)
        (refine pin_pure (fun K hK => ?_); go_simp; refine hK _ _ ?_; clear hK K)
        (refine pin_pure (fun K hK => ?_); go_simp; refine hK _ _ ?_; clear hK K)
        (refine pin_fixed (fun K hK => ?_); go_simp; refine ⟨.string x.key, fun w => ?_, hK _ _ ?_⟩; (intros; go_simp); clear hK K)
        (refine pin_pure (fun K hK => ?_); go_simp; refine hK _ _ ?_; clear hK K)
        (refine pin_pure (fun K hK => ?_); go_simp; refine hK _ _ ?_; clear hK K)
        (refine pin_pure (fun K hK => ?_); go_simp; refine hK _ _ ?_; clear hK K)
        (refine pin_pure (fun K hK => ?_); go_simp; refine hK _ _ ?_; clear hK K)
        (refine pin_pure (fun K hK => ?_); go_simp; refine hK _ _ ?_; clear hK K)
        (refine pin_pure (fun K hK => ?_); go_simp; refine hK _ _ ?_; clear hK K)
        (refine pin_read (fun K hK => ?_); go_simp; refine hK _ _ ?_; clear hK K)
        (refine pin_writeS (fun K hK => ?_); go_simp; intro nw; refine (HC.out _).mono ?_; rintro e w2 ⟨a, rfl, ha, hsa, hb3⟩; obtain ⟨w2, rfl⟩ : ∃ w5, w2 = World.drewN w5 0 := ⟨w2, rfl⟩; have HB2 : Hid (Below wr.heap.size wr w2) := Lib.hid ((below_drewN (Below.refl _ wr) _).trans hb3); have HA := Lib.hid hsa; obtain ⟨m2, hm2⟩ : ∃ m, m = m1 + a := ⟨_, rfl⟩; have hw2 : IntKind.i64.wrap ((m1 : Int) + (a : Int)) = (m2 : Int) := (by rw [IntKind.wrap_i64]; omega); have M2 := Lib.hid hm2; have hm2b : m2 ≤ 4503599627370496 := (by omega); clear hb3 hsa hm2; refine ⟨_, rfl, _, ⟨_, rfl⟩, hK _ _ ?_ ?_⟩; (exact (HB2.out.cell (p := ⟨r, _, none⟩) HRL.out).trans HS.out); clear hK K)
        (refine pin_pure (fun K hK => ?_); go_simp; refine hK _ _ ?_; clear hK K)
        (refine pin_pure (fun K hK => ?_); go_simp; refine hK _ _ ?_; clear hK K)
        refine pin_nil ?_
        intro nq
        go_wp2_with fail
        refine ⟨⟨k + 1, m2, by omega, by go_num, rfl, hm2b, Lib.hid (fun h => ?_), Lib.hid (below_drewN (HB.out.trans (HB2.out.mono HB.out.size)) _)⟩, by simp [intOf]; omega⟩
        rw [szto_succ _ _ hks, ← HX.out, ← HN.out hm]
        have h1 := M1.out
        have h2 := M2.out
        have h3 := HA.out (by omega)
        unfold szIt
        omega
      · have hm' : ¬ (n : Int) ≤ 1048576 := by omega
        go_wp2_with fail
        go_ret
        exact ⟨n, rfl, hn, fun h => absurd h hm, HB.out⟩
    · have hlt' : ¬ ((k : Int) < (L : Int)) := by omega
      obtain rfl : k = L := by omega
      go_wp2_with fail
      go_ret
      refine ⟨n, rfl, hn, fun h => ?_, HB.out⟩
      rw [HN.out h, HL.out, szto_all]
end Go.Proofs.Ytpnmhldaaaemeaa.Snp
