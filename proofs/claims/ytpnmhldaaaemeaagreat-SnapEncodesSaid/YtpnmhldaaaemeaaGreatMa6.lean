import Derived.Test.YtpnmhldaaaemeaaGreatMa5
import Derived.Laws.Entries
import Derived.Carry
import Derived.Deep.WholeRow
/- Chapter 24: 'rising' over a sorted set's members. Printed by mk_riss24.py out of gen_risp24.py. -/
namespace Go.Proofs.YtpnmhldaaaemeaaGreat.Snp
open Go.RowKit Go.Proofs.YtpnmhldaaaemeaaGreat.Pin Go.Proofs.YtpnmhldaaaemeaaGreat.Mps

theorem run_store_float (P : Program) (w : World) (a : Addr) (m : Mode) (k : FloatKind) (b : Nat) : (store a (.float k b) m).run P w = stored P w a (.float k b) m := run_store P w a _ m rfl
attribute [local go_sem] run_store_float
/-- a sorted set's members -/
def ZsP (l : List Sc) : Prop := Ris ScP SaheadP l ∧ (l.map (·.1)).Nodup
def UptoZ (l : List Sc) (k : Nat) : Prop := Upto ScP SaheadP l k ∧ ((l.take k).map (·.1)).Nodup
def MayZ (l : List Sc) (k : Nat) (x : Sc) : Prop := x.1 ∉ (l.take k).map (·.1) ∧ ScP x
theorem uptoz_zero (l : List Sc) : UptoZ l 0 := ⟨upto_zero _ _ _, by simp⟩
theorem take_names {l : List Sc} {k : Nat} {x : Sc} (hk : k < l.length) (hx : x = l[k]) : (l.take (k + 1)).map (·.1) = (l.take k).map (·.1) ++ [x.1] := by
  rw [List.take_succ_eq_append_getElem hk, List.map_append, ← hx]
  rfl
theorem uptoz_succ {l : List Sc} {k : Nat} {x : Sc} (h : UptoZ l k) (hk : k < l.length) (hx : x = l[k]) (h1 : MayZ l k x) (h2 : ∀ _ : 0 < k, SaheadP (l[k - 1]'(by omega)) l[k]) : UptoZ l (k + 1) := by
  refine ⟨upto_succ h.1 hk (by rw [← hx]; exact h1.2) h2, ?_⟩
  rw [take_names hk hx, List.nodup_append]
  exact ⟨h.2, by simp, fun a ha b hb e => by
    obtain rfl := List.mem_singleton.1 hb
    exact h1.1 (e ▸ ha)⟩
theorem zs_of_upto {l : List Sc} (hl : l.length ≤ 1048576) (h : UptoZ l l.length) : ZsP l := ⟨ris_of_upto hl h.1, by have := h.2; rw [List.take_length] at this; exact this⟩
theorem zs_may {l : List Sc} {k : Nat} {x : Sc} (h : ZsP l) (hk : k < l.length) (hx : x = l[k]) : MayZ l k x := by
  refine ⟨fun hm => ?_, by rw [hx]; exact (h.1.2 k hk).1⟩
  have hn := h.2
  have e : l = l.take (k + 1) ++ l.drop (k + 1) := (List.take_append_drop _ _).symm
  rw [e, List.map_append, take_names hk hx, List.nodup_append] at hn
  have h2 := hn.1
  rw [List.nodup_append] at h2
  exact h2.2.2 _ hm x.1 (by simp) rfl
theorem seen_next {w : World} {M : Nat} {l : List Sc} {k : Nat} {x : Sc} (hk : k < l.length) (hx : x = l[k]) (h : SeenAt w M ((l.take k).map (·.1) ++ [x.1])) : SeenAt w M ((l.take (k + 1)).map (·.1)) := by
  rw [take_names hk hx]
  exact h
theorem asks_yes {f : FuncId} {args : Array Value} {w : World} {P : Prop} {R : World → Prop} (h : Calls Tryz.prog f args w fun e w' => e = .returned (.bool (pb P)) ∧ R w') (hP : P) : Calls Tryz.prog f args w fun e w' => e = .returned (.bool true) ∧ R w' := by
  rw [pb_true hP] at h
  exact h
theorem asks_no {f : FuncId} {args : Array Value} {w : World} {P : Prop} {R : World → Prop} (h : Calls Tryz.prog f args w fun e w' => e = .returned (.bool (pb P)) ∧ R w') (hP : ¬ P) : Calls Tryz.prog f args w fun e w' => e = .returned (.bool false) ∧ R w' := by
  rw [pb_false hP] at h
  exact h
theorem box_grown {wr w3 : World} {o : Obj} {n M : Nat} (hM : M < wr.heap.size) (hg : ((wr.alloc o).drewN n).grownBy w3 (some M)) : wr.grownBy w3 (some M) ∧ w3.heap[wr.heap.size]? = some o := by
  have hz : ((wr.alloc o).drewN n).heap.size = wr.heap.size + 1 := by show (wr.alloc o).heap.size = _; simp
  refine ⟨grown_trans (grown_drewN (World.grownBy_alloc wr o _) n) hg, ?_⟩
  rw [hg.block wr.heap.size (by omega) (fun e => by injection e with e; omega)]
  exact heap_alloc_new wr o
set_option maxHeartbeats 2000000 in
set_option maxRecDepth 100000 in
theorem ris_zset (l : List Sc) (v : Value) (B b M : Nat) (w : World) (hT : ScoredsAt w B v l) (hBM : B ≤ M) (hl : l.length ≤ 140737488351232) (hxs : ∀ s ∈ l, s.2 < 18446744073709551616) (hb : w.heap[b]? = some (.cells #[.map (some M)] 113 (0, 0))) (hM : SeenAt w M []) :
    Calls Tryz.prog 87 #[v, .func (.func 88) #[] #[.pointer (some ⟨b, 0, none⟩)], .func (.func 91) #[] #[]] w fun e w' => e = .returned (.bool (pb (ZsP l))) ∧ w.grownBy w' (some M) := by
  obtain ⟨A, c, rfl, hT⟩ := hT
  have hbl : b < w.heap.size := (Array.getElem?_eq_some_iff.1 hb).1
  have hMl := MapAt.lt hM
  have hbM : b ≠ M := by
    intro e
    obtain ⟨es, clock, h1, _⟩ := hM
    rw [e, h1] at hb
    cases hb
  obtain ⟨L, hL⟩ : ∃ L, L = l.length := ⟨_, rfl⟩
  rw [← hL] at hl ⊢
  have HL := Lib.hid hL
  have HT := Lib.hid hT
  have HXS := Lib.hid hxs
  have HBH := Lib.hid hb
  have HM0 := Lib.hid hM
  clear hL hT hxs hb hM
  by_cases hbig : (1048576 : Int) < (L : Int)
  · rw [pb_false (show ¬ ZsP l from fun h => by have := h.1.1; have := HL.out; omega)]
    go_enter Tryz.func87, Tryz.ntmps87
    go_wp2_with fail
    go_ret
    exact ⟨rfl, World.grownBy.refl _ _⟩
  · go_enter Tryz.func87, Tryz.ntmps87
    go_wp2_with fail
    go_loopw [14] (fun i wr => ∃ (k : Nat), k ≤ L ∧ i = .int .i64 k ∧ Hid (UptoZ l k) ∧ Hid (w.grownBy wr (some M)) ∧ Hid (SeenAt wr M ((l.take k).map (·.1)))) (fun i _ => L - (intOf i).toNat)
    case atStart => exact ⟨0, by omega, rfl, Lib.hid (uptoz_zero l), Lib.hid (World.grownBy.refl _ _), HM0⟩
    case round =>
      obtain ⟨k, hk, rfl, HU, HB, HSN⟩ := hrel
      by_cases hlt : k < L
      · have hlt' : (k : Int) < (L : Int) := by omega
        have hkl : k < l.length := by rw [← HL.out]; exact hlt
        obtain ⟨r, o, rfl, hr, hc⟩ := HT.out (by have := HL.out; omega)
        have hsz := HB.out.size
        have hrl : r < w.heap.size := by omega
        obtain ⟨hca, hcb⟩ := hc k hkl
        have hold : ∀ W, w.grownBy W (some M) → ∀ q, W.cell? ⟨r, q, none⟩ = w.cell? ⟨r, q, none⟩ := fun W hW q => World.cell?_of_block (hW.block r hrl (fun e => by injection e with e; omega))
        have hck := (hold wr HB.out _).trans hca
        have hck2 := (hold wr HB.out _).trans hcb
        have hxx : (l[k]).2 < 18446744073709551616 := HXS.out _ (List.getElem_mem _)
        obtain ⟨x, hx⟩ : ∃ x, x = l[k] := ⟨_, rfl⟩
        rw [← hx] at hck hck2 hxx
        have HX := Lib.hid hx
        have HC := Lib.hid hc
        have HOLD := Lib.hid hold
        have hbr : wr.heap[b]? = some (.cells #[.map (some M)] 113 (0, 0)) := (HB.out.block b hbl (fun e => hbM (by injection e))).trans HBH.out
        have HMAY : Hid (∀ n, Calls Tryz.prog 88 #[.agg #[.string x.1, .float .f64 x.2], .pointer (some ⟨b, 0, none⟩)] ((wr.alloc (.cells #[.string x.1, .float .f64 x.2] 88)).drewN n) fun e w' => e = .returned (.bool (pb (x.1 ∉ (l.take k).map (·.1) ∧ ScP x))) ∧ (x.1 ∉ (l.take k).map (·.1) → SeenAt w' M ((l.take k).map (·.1) ++ [x.1])) ∧ ((wr.alloc (.cells #[.string x.1, .float .f64 x.2] 88)).drewN n).grownBy w' (some M)) :=
          Lib.hid (fun n => scored1_any x b M _ _ hxx ((Lib.alloc_old wr _ _ (by omega)).trans hbr) (MapAt.same HSN.out (Lib.alloc_old wr _ _ (by omega))))
        clear hold hbr hxx
        clear hc hca hcb hx
        go_wp2_with fail
        by_cases hm : ¬ MayZ l k x
        · have HN := Lib.hid hm
          clear hm
          refine wp_region_q [0,1,2,0,0,0,0,0,0,0,0,0,0,1,1,2,0,0,0] (by kernel_rfl) (by kernel_rfl) ?_
          (refine q_pure_n rfl (fun K hK => ?_); go_simp; refine hK _ _ ?_; clear hK K)
          (refine q_read_n rfl (fun K hK => ?_); go_simp; refine hK _ _ ?_; clear hK K)
          (refine q_write_n rfl (fun K hK => ?_); go_simp; intro nw; refine (asks_no (R := fun w' => (x.1 ∉ (l.take k).map (·.1) → SeenAt w' M ((l.take k).map (·.1) ++ [x.1])) ∧ _) (HMAY.out _) HN.out).mono ?_; rintro e w3 ⟨rfl, hs3, hg3⟩; obtain ⟨hbb, hbo⟩ := box_grown (Nat.lt_of_lt_of_le hMl hsz) hg3; clear hg3; obtain ⟨w3, rfl⟩ : ∃ w5, w3 = World.drewN w5 0 := ⟨w3, rfl⟩; have HB3 : Hid (w.grownBy w3 (some M)) := Lib.hid (grown_trans HB.out hbb); have HS3 : Hid (x.1 ∉ (l.take k).map (·.1) → SeenAt w3 M ((l.take k).map (·.1) ++ [x.1])) := Lib.hid hs3; clear hs3; have hsz3 := HB3.out.size; have hbo : w3.heap[wr.heap.size]? = _ := hbo; have hx3 : w3.cell? ⟨wr.heap.size, 0, none⟩ = some (.string x.1) := (by rw [Lib.cell_of_heap hbo]; rfl); have hx4 : w3.cell? ⟨wr.heap.size, 1, none⟩ = some (.float .f64 x.2) := (by rw [Lib.cell_of_heap hbo]; rfl); clear hbb hbo; refine ⟨_, rfl, _, ⟨_, rfl⟩, hK _ _ ?_⟩; clear hK K)
          (refine q_pure_n rfl (fun K hK => ?_); go_simp; refine hK _ _ ?_; clear hK K)
          (refine q_pure_n rfl (fun K hK => ?_); go_simp; refine hK _ _ ?_; clear hK K)
          first | (refine q_pure_x rfl ?hy (fun K hK => ?_); (case hy => rfl); go_simp; refine hK _ _ ?_; clear hK K) | (refine q_pure_u rfl ?hy (fun K hK => ?_); (case hy => rfl); go_simp; refine hK _ _ ?_; clear hK K) | (refine q_pure_y rfl ?hy (fun K hK => ?_); (case hy => rfl); go_simp; refine hK _ _ ?_; clear hK K)
          first | (refine q_pure_x rfl ?hy (fun K hK => ?_); (case hy => rfl); go_simp; refine hK _ _ ?_; clear hK K) | (refine q_pure_u rfl ?hy (fun K hK => ?_); (case hy => rfl); go_simp; refine hK _ _ ?_; clear hK K) | (refine q_pure_y rfl ?hy (fun K hK => ?_); (case hy => rfl); go_simp; refine hK _ _ ?_; clear hK K)
          first | (refine q_pure_x rfl ?hy (fun K hK => ?_); (case hy => rfl); go_simp; refine hK _ _ ?_; clear hK K) | (refine q_pure_u rfl ?hy (fun K hK => ?_); (case hy => rfl); go_simp; refine hK _ _ ?_; clear hK K) | (refine q_pure_y rfl ?hy (fun K hK => ?_); (case hy => rfl); go_simp; refine hK _ _ ?_; clear hK K)
          first | (refine q_pure_x rfl ?hy (fun K hK => ?_); (case hy => rfl); go_simp; refine hK _ _ ?_; clear hK K) | (refine q_pure_u rfl ?hy (fun K hK => ?_); (case hy => rfl); go_simp; refine hK _ _ ?_; clear hK K) | (refine q_pure_y rfl ?hy (fun K hK => ?_); (case hy => rfl); go_simp; refine hK _ _ ?_; clear hK K)
          first | (refine q_pure_x rfl ?hy (fun K hK => ?_); (case hy => rfl); go_simp; refine hK _ _ ?_; clear hK K) | (refine q_pure_u rfl ?hy (fun K hK => ?_); (case hy => rfl); go_simp; refine hK _ _ ?_; clear hK K) | (refine q_pure_y rfl ?hy (fun K hK => ?_); (case hy => rfl); go_simp; refine hK _ _ ?_; clear hK K)
          first | (refine q_pure_x rfl ?hy (fun K hK => ?_); (case hy => rfl); go_simp; refine hK _ _ ?_; clear hK K) | (refine q_pure_u rfl ?hy (fun K hK => ?_); (case hy => rfl); go_simp; refine hK _ _ ?_; clear hK K) | (refine q_pure_y rfl ?hy (fun K hK => ?_); (case hy => rfl); go_simp; refine hK _ _ ?_; clear hK K)
          first | (refine q_pure_x rfl ?hy (fun K hK => ?_); (case hy => rfl); go_simp; refine hK _ _ ?_; clear hK K) | (refine q_pure_u rfl ?hy (fun K hK => ?_); (case hy => rfl); go_simp; refine hK _ _ ?_; clear hK K) | (refine q_pure_y rfl ?hy (fun K hK => ?_); (case hy => rfl); go_simp; refine hK _ _ ?_; clear hK K)
          first | (refine q_pure_x rfl ?hy (fun K hK => ?_); (case hy => rfl); go_simp; refine hK _ _ ?_; clear hK K) | (refine q_pure_u rfl ?hy (fun K hK => ?_); (case hy => rfl); go_simp; refine hK _ _ ?_; clear hK K) | (refine q_pure_y rfl ?hy (fun K hK => ?_); (case hy => rfl); go_simp; refine hK _ _ ?_; clear hK K)
          first | (refine q_read_x rfl ?hy (fun K hK => ?_); (case hy => rfl); go_simp; refine hK _ _ ?_; clear hK K) | (refine q_read_u rfl ?hy (fun K hK => ?_); (case hy => rfl); go_simp; refine hK _ _ ?_; clear hK K) | (refine q_read_y rfl ?hy (fun K hK => ?_); (case hy => rfl); go_simp; refine hK _ _ ?_; clear hK K)
          first | (refine q_read_x rfl ?hy (fun K hK => ?_); (case hy => rfl); go_simp; refine hK _ _ ?_; clear hK K) | (refine q_read_u rfl ?hy (fun K hK => ?_); (case hy => rfl); go_simp; refine hK _ _ ?_; clear hK K) | (refine q_read_y rfl ?hy (fun K hK => ?_); (case hy => rfl); go_simp; refine hK _ _ ?_; clear hK K)
          first | (refine q_write_x rfl ?hy (fun K hK => ?_); (case hy => rfl); go_simp; refine hK _ _ ?_; clear hK K) | (refine q_write_u rfl ?hy (fun K hK => ?_); (case hy => rfl); go_simp; refine hK _ _ ?_; clear hK K) | (refine q_write_y rfl ?hy (fun K hK => ?_); (case hy => rfl); go_simp; intro nw; fail; refine ⟨_, rfl, _, ⟨_, rfl⟩, hK _ _ ?_⟩; clear hK K)
          first | (refine q_pure_x rfl ?hy (fun K hK => ?_); (case hy => rfl); go_simp; refine hK _ _ ?_; clear hK K) | (refine q_pure_u rfl ?hy (fun K hK => ?_); (case hy => rfl); go_simp; refine hK _ _ ?_; clear hK K) | (refine q_pure_y rfl ?hy (fun K hK => ?_); (case hy => rfl); go_simp; refine hK _ _ ?_; clear hK K)
          first | (refine q_pure_x rfl ?hy (fun K hK => ?_); (case hy => rfl); go_simp; refine hK _ _ ?_; clear hK K) | (refine q_pure_u rfl ?hy (fun K hK => ?_); (case hy => rfl); go_simp; refine hK _ _ ?_; clear hK K) | (refine q_pure_y rfl ?hy (fun K hK => ?_); (case hy => rfl); go_simp; refine hK _ _ ?_; clear hK K)
          (refine q_pure_n rfl (fun K hK => ?_); go_simp; refine hK _ _ ?_; clear hK K)
          refine q_nil ?_
          intro nq
          go_wp2_with fail
          go_ret
          refine ⟨?_, grown_drewN HB3.out _⟩
          exact ret_no (fun h => HN.out (zs_may h hkl HX.out))
        · have HMX := Lib.hid (Classical.not_not.1 hm)
          clear hm
          by_cases hk0 : 0 < k
          · have hk0' : (0 : Int) < (k : Int) := by omega
            obtain ⟨hcp, hcq⟩ := HC.out (k - 1) (by omega)
            obtain ⟨y, hy⟩ : ∃ y, y = l[k - 1] := ⟨_, rfl⟩
            rw [← hy] at hcp hcq
            have HY := Lib.hid hy
            obtain ⟨kp, hkp⟩ : ∃ kp, kp = k - 1 := ⟨_, rfl⟩
            have hkpl : (kp : Int) < (L : Int) := by omega
            have hwk : IntKind.i64.wrap ((k : Int) - 1) = (kp : Int) := by rw [IntKind.wrap_i64]; omega
            rw [← hkp] at hcp hcq
            clear hy hkp
            by_cases ha : ¬ SaheadP y x
            · have HN := Lib.hid ha
              clear ha
              refine wp_region_q [0,1,2,0,0,0,0,0,0,0,0,0,0,1,1,2,0,0,0] (by kernel_rfl) (by kernel_rfl) ?_
              (refine q_pure_n rfl (fun K hK => ?_); go_simp; refine hK _ _ ?_; clear hK K)
              (refine q_read_n rfl (fun K hK => ?_); go_simp; refine hK _ _ ?_; clear hK K)
              (refine q_write_n rfl (fun K hK => ?_); go_simp; intro nw; refine (asks_yes (R := fun w' => (x.1 ∉ (l.take k).map (·.1) → SeenAt w' M ((l.take k).map (·.1) ++ [x.1])) ∧ _) (HMAY.out _) HMX.out).mono ?_; rintro e w3 ⟨rfl, hs3, hg3⟩; obtain ⟨hbb, hbo⟩ := box_grown (Nat.lt_of_lt_of_le hMl hsz) hg3; clear hg3; obtain ⟨w3, rfl⟩ : ∃ w5, w3 = World.drewN w5 0 := ⟨w3, rfl⟩; have HB3 : Hid (w.grownBy w3 (some M)) := Lib.hid (grown_trans HB.out hbb); have HS3 : Hid (x.1 ∉ (l.take k).map (·.1) → SeenAt w3 M ((l.take k).map (·.1) ++ [x.1])) := Lib.hid hs3; clear hs3; have hsz3 := HB3.out.size; have hbo : w3.heap[wr.heap.size]? = _ := hbo; have hx3 : w3.cell? ⟨wr.heap.size, 0, none⟩ = some (.string x.1) := (by rw [Lib.cell_of_heap hbo]; rfl); have hx4 : w3.cell? ⟨wr.heap.size, 1, none⟩ = some (.float .f64 x.2) := (by rw [Lib.cell_of_heap hbo]; rfl); clear hbb hbo; have hy3 : w3.cell? ⟨r, o + kp * 2, none⟩ = some (.string y.1) := (HOLD.out w3 HB3.out _).trans hcp; have hy4 : w3.cell? ⟨r, o + kp * 2 + 1, none⟩ = some (.float .f64 y.2) := (HOLD.out w3 HB3.out _).trans hcq; refine ⟨_, rfl, _, ⟨_, rfl⟩, hK _ _ ?_⟩; clear hK K)
              (refine q_pure_n rfl (fun K hK => ?_); go_simp; refine hK _ _ ?_; clear hK K)
              (refine q_pure_n rfl (fun K hK => ?_); go_simp; refine hK _ _ ?_; clear hK K)
              first | (refine q_pure_x rfl ?hy (fun K hK => ?_); (case hy => rfl); go_simp; refine hK _ _ ?_; clear hK K) | (refine q_pure_u rfl ?hy (fun K hK => ?_); (case hy => rfl); go_simp; refine hK _ _ ?_; clear hK K) | (refine q_pure_y rfl ?hy (fun K hK => ?_); (case hy => rfl); go_simp; refine hK _ _ ?_; clear hK K)
              first | (refine q_pure_x rfl ?hy (fun K hK => ?_); (case hy => rfl); go_simp; refine hK _ _ ?_; clear hK K) | (refine q_pure_u rfl ?hy (fun K hK => ?_); (case hy => rfl); go_simp; refine hK _ _ ?_; clear hK K) | (refine q_pure_y rfl ?hy (fun K hK => ?_); (case hy => rfl); go_simp; refine hK _ _ ?_; clear hK K)
              first | (refine q_pure_x rfl ?hy (fun K hK => ?_); (case hy => rfl); go_simp; refine hK _ _ ?_; clear hK K) | (refine q_pure_u rfl ?hy (fun K hK => ?_); (case hy => rfl); go_simp; refine hK _ _ ?_; clear hK K) | (refine q_pure_y rfl ?hy (fun K hK => ?_); (case hy => rfl); go_simp; refine hK _ _ ?_; clear hK K)
              first | (refine q_pure_x rfl ?hy (fun K hK => ?_); (case hy => rfl); go_simp; refine hK _ _ ?_; clear hK K) | (refine q_pure_u rfl ?hy (fun K hK => ?_); (case hy => rfl); go_simp; refine hK _ _ ?_; clear hK K) | (refine q_pure_y rfl ?hy (fun K hK => ?_); (case hy => rfl); go_simp; refine hK _ _ ?_; clear hK K)
              first | (refine q_pure_x rfl ?hy (fun K hK => ?_); (case hy => rfl); go_simp; refine hK _ _ ?_; clear hK K) | (refine q_pure_u rfl ?hy (fun K hK => ?_); (case hy => rfl); go_simp; refine hK _ _ ?_; clear hK K) | (refine q_pure_y rfl ?hy (fun K hK => ?_); (case hy => rfl); go_simp; refine hK _ _ ?_; clear hK K)
              first | (refine q_pure_x rfl ?hy (fun K hK => ?_); (case hy => rfl); go_simp; refine hK _ _ ?_; clear hK K) | (refine q_pure_u rfl ?hy (fun K hK => ?_); (case hy => rfl); go_simp; refine hK _ _ ?_; clear hK K) | (refine q_pure_y rfl ?hy (fun K hK => ?_); (case hy => rfl); go_simp; refine hK _ _ ?_; clear hK K)
              first | (refine q_pure_x rfl ?hy (fun K hK => ?_); (case hy => rfl); go_simp; refine hK _ _ ?_; clear hK K) | (refine q_pure_u rfl ?hy (fun K hK => ?_); (case hy => rfl); go_simp; refine hK _ _ ?_; clear hK K) | (refine q_pure_y rfl ?hy (fun K hK => ?_); (case hy => rfl); go_simp; refine hK _ _ ?_; clear hK K)
              first | (refine q_pure_x rfl ?hy (fun K hK => ?_); (case hy => rfl); go_simp; refine hK _ _ ?_; clear hK K) | (refine q_pure_u rfl ?hy (fun K hK => ?_); (case hy => rfl); go_simp; refine hK _ _ ?_; clear hK K) | (refine q_pure_y rfl ?hy (fun K hK => ?_); (case hy => rfl); go_simp; refine hK _ _ ?_; clear hK K)
              first | (refine q_read_x rfl ?hy (fun K hK => ?_); (case hy => rfl); go_simp; refine hK _ _ ?_; clear hK K) | (refine q_read_u rfl ?hy (fun K hK => ?_); (case hy => rfl); go_simp; refine hK _ _ ?_; clear hK K) | (refine q_read_y rfl ?hy (fun K hK => ?_); (case hy => rfl); go_simp; refine hK _ _ ?_; clear hK K)
              first | (refine q_read_x rfl ?hy (fun K hK => ?_); (case hy => rfl); go_simp; refine hK _ _ ?_; clear hK K) | (refine q_read_u rfl ?hy (fun K hK => ?_); (case hy => rfl); go_simp; refine hK _ _ ?_; clear hK K) | (refine q_read_y rfl ?hy (fun K hK => ?_); (case hy => rfl); go_simp; refine hK _ _ ?_; clear hK K)
              first | (refine q_write_x rfl ?hy (fun K hK => ?_); (case hy => rfl); go_simp; refine hK _ _ ?_; clear hK K) | (refine q_write_u rfl ?hy (fun K hK => ?_); (case hy => rfl); go_simp; refine hK _ _ ?_; clear hK K) | (refine q_write_y rfl ?hy (fun K hK => ?_); (case hy => rfl); go_simp; intro nw; refine ((sless2_any y x _).no HN.out).mono ?_; rintro e w4 ⟨rfl, hb4⟩; obtain ⟨w4, rfl⟩ : ∃ w5, w4 = World.drewN w5 0 := ⟨w4, rfl⟩; have HB4 : Hid (w.grownBy w4 (some M)) := Lib.hid (grown_trans (grown_drewN HB3.out _) (grown_below M hb4)); have HM4 : Hid (w4.heap[M]? = w3.heap[M]?) := Lib.hid (hb4.block M (by show M < w3.heap.size; omega)); clear hb4; refine ⟨_, rfl, _, ⟨_, rfl⟩, hK _ _ ?_⟩; clear hK K)
              first | (refine q_pure_x rfl ?hy (fun K hK => ?_); (case hy => rfl); go_simp; refine hK _ _ ?_; clear hK K) | (refine q_pure_u rfl ?hy (fun K hK => ?_); (case hy => rfl); go_simp; refine hK _ _ ?_; clear hK K) | (refine q_pure_y rfl ?hy (fun K hK => ?_); (case hy => rfl); go_simp; refine hK _ _ ?_; clear hK K)
              first | (refine q_pure_x rfl ?hy (fun K hK => ?_); (case hy => rfl); go_simp; refine hK _ _ ?_; clear hK K) | (refine q_pure_u rfl ?hy (fun K hK => ?_); (case hy => rfl); go_simp; refine hK _ _ ?_; clear hK K) | (refine q_pure_y rfl ?hy (fun K hK => ?_); (case hy => rfl); go_simp; refine hK _ _ ?_; clear hK K)
              (refine q_pure_n rfl (fun K hK => ?_); go_simp; refine hK _ _ ?_; clear hK K)
              refine q_nil ?_
              intro nq
              go_wp2_with fail
              go_ret
              refine ⟨?_, grown_drewN HB4.out _⟩
              refine ret_no (fun h => ?_)
              have := (h.1.2 k hkl).2 hk0
              rw [← HX.out, ← HY.out] at this
              exact HN.out this
            · have HN := Lib.hid (Classical.not_not.1 ha)
              clear ha
              refine wp_region_q [0,1,2,0,0,0,0,0,0,0,0,0,0,1,1,2,0,0,0] (by kernel_rfl) (by kernel_rfl) ?_
              (refine q_pure_n rfl (fun K hK => ?_); go_simp; refine hK _ _ ?_; clear hK K)
              (refine q_read_n rfl (fun K hK => ?_); go_simp; refine hK _ _ ?_; clear hK K)
              (refine q_write_n rfl (fun K hK => ?_); go_simp; intro nw; refine (asks_yes (R := fun w' => (x.1 ∉ (l.take k).map (·.1) → SeenAt w' M ((l.take k).map (·.1) ++ [x.1])) ∧ _) (HMAY.out _) HMX.out).mono ?_; rintro e w3 ⟨rfl, hs3, hg3⟩; obtain ⟨hbb, hbo⟩ := box_grown (Nat.lt_of_lt_of_le hMl hsz) hg3; clear hg3; obtain ⟨w3, rfl⟩ : ∃ w5, w3 = World.drewN w5 0 := ⟨w3, rfl⟩; have HB3 : Hid (w.grownBy w3 (some M)) := Lib.hid (grown_trans HB.out hbb); have HS3 : Hid (x.1 ∉ (l.take k).map (·.1) → SeenAt w3 M ((l.take k).map (·.1) ++ [x.1])) := Lib.hid hs3; clear hs3; have hsz3 := HB3.out.size; have hbo : w3.heap[wr.heap.size]? = _ := hbo; have hx3 : w3.cell? ⟨wr.heap.size, 0, none⟩ = some (.string x.1) := (by rw [Lib.cell_of_heap hbo]; rfl); have hx4 : w3.cell? ⟨wr.heap.size, 1, none⟩ = some (.float .f64 x.2) := (by rw [Lib.cell_of_heap hbo]; rfl); clear hbb hbo; have hy3 : w3.cell? ⟨r, o + kp * 2, none⟩ = some (.string y.1) := (HOLD.out w3 HB3.out _).trans hcp; have hy4 : w3.cell? ⟨r, o + kp * 2 + 1, none⟩ = some (.float .f64 y.2) := (HOLD.out w3 HB3.out _).trans hcq; refine ⟨_, rfl, _, ⟨_, rfl⟩, hK _ _ ?_⟩; clear hK K)
              (refine q_pure_n rfl (fun K hK => ?_); go_simp; refine hK _ _ ?_; clear hK K)
              (refine q_pure_n rfl (fun K hK => ?_); go_simp; refine hK _ _ ?_; clear hK K)
              first | (refine q_pure_x rfl ?hy (fun K hK => ?_); (case hy => rfl); go_simp; refine hK _ _ ?_; clear hK K) | (refine q_pure_u rfl ?hy (fun K hK => ?_); (case hy => rfl); go_simp; refine hK _ _ ?_; clear hK K) | (refine q_pure_y rfl ?hy (fun K hK => ?_); (case hy => rfl); go_simp; refine hK _ _ ?_; clear hK K)
              first | (refine q_pure_x rfl ?hy (fun K hK => ?_); (case hy => rfl); go_simp; refine hK _ _ ?_; clear hK K) | (refine q_pure_u rfl ?hy (fun K hK => ?_); (case hy => rfl); go_simp; refine hK _ _ ?_; clear hK K) | (refine q_pure_y rfl ?hy (fun K hK => ?_); (case hy => rfl); go_simp; refine hK _ _ ?_; clear hK K)
              first | (refine q_pure_x rfl ?hy (fun K hK => ?_); (case hy => rfl); go_simp; refine hK _ _ ?_; clear hK K) | (refine q_pure_u rfl ?hy (fun K hK => ?_); (case hy => rfl); go_simp; refine hK _ _ ?_; clear hK K) | (refine q_pure_y rfl ?hy (fun K hK => ?_); (case hy => rfl); go_simp; refine hK _ _ ?_; clear hK K)
              first | (refine q_pure_x rfl ?hy (fun K hK => ?_); (case hy => rfl); go_simp; refine hK _ _ ?_; clear hK K) | (refine q_pure_u rfl ?hy (fun K hK => ?_); (case hy => rfl); go_simp; refine hK _ _ ?_; clear hK K) | (refine q_pure_y rfl ?hy (fun K hK => ?_); (case hy => rfl); go_simp; refine hK _ _ ?_; clear hK K)
              first | (refine q_pure_x rfl ?hy (fun K hK => ?_); (case hy => rfl); go_simp; refine hK _ _ ?_; clear hK K) | (refine q_pure_u rfl ?hy (fun K hK => ?_); (case hy => rfl); go_simp; refine hK _ _ ?_; clear hK K) | (refine q_pure_y rfl ?hy (fun K hK => ?_); (case hy => rfl); go_simp; refine hK _ _ ?_; clear hK K)
              first | (refine q_pure_x rfl ?hy (fun K hK => ?_); (case hy => rfl); go_simp; refine hK _ _ ?_; clear hK K) | (refine q_pure_u rfl ?hy (fun K hK => ?_); (case hy => rfl); go_simp; refine hK _ _ ?_; clear hK K) | (refine q_pure_y rfl ?hy (fun K hK => ?_); (case hy => rfl); go_simp; refine hK _ _ ?_; clear hK K)
              first | (refine q_pure_x rfl ?hy (fun K hK => ?_); (case hy => rfl); go_simp; refine hK _ _ ?_; clear hK K) | (refine q_pure_u rfl ?hy (fun K hK => ?_); (case hy => rfl); go_simp; refine hK _ _ ?_; clear hK K) | (refine q_pure_y rfl ?hy (fun K hK => ?_); (case hy => rfl); go_simp; refine hK _ _ ?_; clear hK K)
              first | (refine q_pure_x rfl ?hy (fun K hK => ?_); (case hy => rfl); go_simp; refine hK _ _ ?_; clear hK K) | (refine q_pure_u rfl ?hy (fun K hK => ?_); (case hy => rfl); go_simp; refine hK _ _ ?_; clear hK K) | (refine q_pure_y rfl ?hy (fun K hK => ?_); (case hy => rfl); go_simp; refine hK _ _ ?_; clear hK K)
              first | (refine q_read_x rfl ?hy (fun K hK => ?_); (case hy => rfl); go_simp; refine hK _ _ ?_; clear hK K) | (refine q_read_u rfl ?hy (fun K hK => ?_); (case hy => rfl); go_simp; refine hK _ _ ?_; clear hK K) | (refine q_read_y rfl ?hy (fun K hK => ?_); (case hy => rfl); go_simp; refine hK _ _ ?_; clear hK K)
              first | (refine q_read_x rfl ?hy (fun K hK => ?_); (case hy => rfl); go_simp; refine hK _ _ ?_; clear hK K) | (refine q_read_u rfl ?hy (fun K hK => ?_); (case hy => rfl); go_simp; refine hK _ _ ?_; clear hK K) | (refine q_read_y rfl ?hy (fun K hK => ?_); (case hy => rfl); go_simp; refine hK _ _ ?_; clear hK K)
              first | (refine q_write_x rfl ?hy (fun K hK => ?_); (case hy => rfl); go_simp; refine hK _ _ ?_; clear hK K) | (refine q_write_u rfl ?hy (fun K hK => ?_); (case hy => rfl); go_simp; refine hK _ _ ?_; clear hK K) | (refine q_write_y rfl ?hy (fun K hK => ?_); (case hy => rfl); go_simp; intro nw; refine ((sless2_any y x _).yes HN.out).mono ?_; rintro e w4 ⟨rfl, hb4⟩; obtain ⟨w4, rfl⟩ : ∃ w5, w4 = World.drewN w5 0 := ⟨w4, rfl⟩; have HB4 : Hid (w.grownBy w4 (some M)) := Lib.hid (grown_trans (grown_drewN HB3.out _) (grown_below M hb4)); have HM4 : Hid (w4.heap[M]? = w3.heap[M]?) := Lib.hid (hb4.block M (by show M < w3.heap.size; omega)); clear hb4; refine ⟨_, rfl, _, ⟨_, rfl⟩, hK _ _ ?_⟩; clear hK K)
              first | (refine q_pure_x rfl ?hy (fun K hK => ?_); (case hy => rfl); go_simp; refine hK _ _ ?_; clear hK K) | (refine q_pure_u rfl ?hy (fun K hK => ?_); (case hy => rfl); go_simp; refine hK _ _ ?_; clear hK K) | (refine q_pure_y rfl ?hy (fun K hK => ?_); (case hy => rfl); go_simp; refine hK _ _ ?_; clear hK K)
              first | (refine q_pure_x rfl ?hy (fun K hK => ?_); (case hy => rfl); go_simp; refine hK _ _ ?_; clear hK K) | (refine q_pure_u rfl ?hy (fun K hK => ?_); (case hy => rfl); go_simp; refine hK _ _ ?_; clear hK K) | (refine q_pure_y rfl ?hy (fun K hK => ?_); (case hy => rfl); go_simp; refine hK _ _ ?_; clear hK K)
              (refine q_pure_n rfl (fun K hK => ?_); go_simp; refine hK _ _ ?_; clear hK K)
              refine q_nil ?_
              intro nq
              go_wp2_with fail
              go_roundw
              case rel => exact ⟨k + 1, by omega, by go_num, Lib.hid (uptoz_succ HU.out hkl HX.out HMX.out (fun _ => by rw [← HX.out, ← HY.out]; exact HN.out)), Lib.hid (grown_drewN HB4.out _), Lib.hid (seen_next hkl HX.out (MapAt.same (HS3.out HMX.out.1) HM4.out))⟩
              case measure => simp [intOf]; omega
          · have hk0' : ¬ (0 : Int) < (k : Int) := by omega
            refine wp_region_q [0,1,2,0,0,0,0,0,0,0,0,0,0,1,1,2,0,0,0] (by kernel_rfl) (by kernel_rfl) ?_
            (refine q_pure_n rfl (fun K hK => ?_); go_simp; refine hK _ _ ?_; clear hK K)
            (refine q_read_n rfl (fun K hK => ?_); go_simp; refine hK _ _ ?_; clear hK K)
            (refine q_write_n rfl (fun K hK => ?_); go_simp; intro nw; refine (asks_yes (R := fun w' => (x.1 ∉ (l.take k).map (·.1) → SeenAt w' M ((l.take k).map (·.1) ++ [x.1])) ∧ _) (HMAY.out _) HMX.out).mono ?_; rintro e w3 ⟨rfl, hs3, hg3⟩; obtain ⟨hbb, hbo⟩ := box_grown (Nat.lt_of_lt_of_le hMl hsz) hg3; clear hg3; obtain ⟨w3, rfl⟩ : ∃ w5, w3 = World.drewN w5 0 := ⟨w3, rfl⟩; have HB3 : Hid (w.grownBy w3 (some M)) := Lib.hid (grown_trans HB.out hbb); have HS3 : Hid (x.1 ∉ (l.take k).map (·.1) → SeenAt w3 M ((l.take k).map (·.1) ++ [x.1])) := Lib.hid hs3; clear hs3; have hsz3 := HB3.out.size; have hbo : w3.heap[wr.heap.size]? = _ := hbo; have hx3 : w3.cell? ⟨wr.heap.size, 0, none⟩ = some (.string x.1) := (by rw [Lib.cell_of_heap hbo]; rfl); have hx4 : w3.cell? ⟨wr.heap.size, 1, none⟩ = some (.float .f64 x.2) := (by rw [Lib.cell_of_heap hbo]; rfl); clear hbb hbo; refine ⟨_, rfl, _, ⟨_, rfl⟩, hK _ _ ?_⟩; clear hK K)
            (refine q_pure_n rfl (fun K hK => ?_); go_simp; refine hK _ _ ?_; clear hK K)
            (refine q_pure_n rfl (fun K hK => ?_); go_simp; refine hK _ _ ?_; clear hK K)
            first | (refine q_pure_x rfl ?hy (fun K hK => ?_); (case hy => rfl); go_simp; refine hK _ _ ?_; clear hK K) | (refine q_pure_u rfl ?hy (fun K hK => ?_); (case hy => rfl); go_simp; refine hK _ _ ?_; clear hK K) | (refine q_pure_y rfl ?hy (fun K hK => ?_); (case hy => rfl); go_simp; refine hK _ _ ?_; clear hK K)
            first | (refine q_pure_x rfl ?hy (fun K hK => ?_); (case hy => rfl); go_simp; refine hK _ _ ?_; clear hK K) | (refine q_pure_u rfl ?hy (fun K hK => ?_); (case hy => rfl); go_simp; refine hK _ _ ?_; clear hK K) | (refine q_pure_y rfl ?hy (fun K hK => ?_); (case hy => rfl); go_simp; refine hK _ _ ?_; clear hK K)
            first | (refine q_pure_x rfl ?hy (fun K hK => ?_); (case hy => rfl); go_simp; refine hK _ _ ?_; clear hK K) | (refine q_pure_u rfl ?hy (fun K hK => ?_); (case hy => rfl); go_simp; refine hK _ _ ?_; clear hK K) | (refine q_pure_y rfl ?hy (fun K hK => ?_); (case hy => rfl); go_simp; refine hK _ _ ?_; clear hK K)
            first | (refine q_pure_x rfl ?hy (fun K hK => ?_); (case hy => rfl); go_simp; refine hK _ _ ?_; clear hK K) | (refine q_pure_u rfl ?hy (fun K hK => ?_); (case hy => rfl); go_simp; refine hK _ _ ?_; clear hK K) | (refine q_pure_y rfl ?hy (fun K hK => ?_); (case hy => rfl); go_simp; refine hK _ _ ?_; clear hK K)
            first | (refine q_pure_x rfl ?hy (fun K hK => ?_); (case hy => rfl); go_simp; refine hK _ _ ?_; clear hK K) | (refine q_pure_u rfl ?hy (fun K hK => ?_); (case hy => rfl); go_simp; refine hK _ _ ?_; clear hK K) | (refine q_pure_y rfl ?hy (fun K hK => ?_); (case hy => rfl); go_simp; refine hK _ _ ?_; clear hK K)
            first | (refine q_pure_x rfl ?hy (fun K hK => ?_); (case hy => rfl); go_simp; refine hK _ _ ?_; clear hK K) | (refine q_pure_u rfl ?hy (fun K hK => ?_); (case hy => rfl); go_simp; refine hK _ _ ?_; clear hK K) | (refine q_pure_y rfl ?hy (fun K hK => ?_); (case hy => rfl); go_simp; refine hK _ _ ?_; clear hK K)
            first | (refine q_pure_x rfl ?hy (fun K hK => ?_); (case hy => rfl); go_simp; refine hK _ _ ?_; clear hK K) | (refine q_pure_u rfl ?hy (fun K hK => ?_); (case hy => rfl); go_simp; refine hK _ _ ?_; clear hK K) | (refine q_pure_y rfl ?hy (fun K hK => ?_); (case hy => rfl); go_simp; refine hK _ _ ?_; clear hK K)
            first | (refine q_pure_x rfl ?hy (fun K hK => ?_); (case hy => rfl); go_simp; refine hK _ _ ?_; clear hK K) | (refine q_pure_u rfl ?hy (fun K hK => ?_); (case hy => rfl); go_simp; refine hK _ _ ?_; clear hK K) | (refine q_pure_y rfl ?hy (fun K hK => ?_); (case hy => rfl); go_simp; refine hK _ _ ?_; clear hK K)
            first | (refine q_read_x rfl ?hy (fun K hK => ?_); (case hy => rfl); go_simp; refine hK _ _ ?_; clear hK K) | (refine q_read_u rfl ?hy (fun K hK => ?_); (case hy => rfl); go_simp; refine hK _ _ ?_; clear hK K) | (refine q_read_y rfl ?hy (fun K hK => ?_); (case hy => rfl); go_simp; refine hK _ _ ?_; clear hK K)
            first | (refine q_read_x rfl ?hy (fun K hK => ?_); (case hy => rfl); go_simp; refine hK _ _ ?_; clear hK K) | (refine q_read_u rfl ?hy (fun K hK => ?_); (case hy => rfl); go_simp; refine hK _ _ ?_; clear hK K) | (refine q_read_y rfl ?hy (fun K hK => ?_); (case hy => rfl); go_simp; refine hK _ _ ?_; clear hK K)
            first | (refine q_write_x rfl ?hy (fun K hK => ?_); (case hy => rfl); go_simp; refine hK _ _ ?_; clear hK K) | (refine q_write_u rfl ?hy (fun K hK => ?_); (case hy => rfl); go_simp; refine hK _ _ ?_; clear hK K) | (refine q_write_y rfl ?hy (fun K hK => ?_); (case hy => rfl); go_simp; intro nw; fail; refine ⟨_, rfl, _, ⟨_, rfl⟩, hK _ _ ?_⟩; clear hK K)
            first | (refine q_pure_x rfl ?hy (fun K hK => ?_); (case hy => rfl); go_simp; refine hK _ _ ?_; clear hK K) | (refine q_pure_u rfl ?hy (fun K hK => ?_); (case hy => rfl); go_simp; refine hK _ _ ?_; clear hK K) | (refine q_pure_y rfl ?hy (fun K hK => ?_); (case hy => rfl); go_simp; refine hK _ _ ?_; clear hK K)
            first | (refine q_pure_x rfl ?hy (fun K hK => ?_); (case hy => rfl); go_simp; refine hK _ _ ?_; clear hK K) | (refine q_pure_u rfl ?hy (fun K hK => ?_); (case hy => rfl); go_simp; refine hK _ _ ?_; clear hK K) | (refine q_pure_y rfl ?hy (fun K hK => ?_); (case hy => rfl); go_simp; refine hK _ _ ?_; clear hK K)
            (refine q_pure_n rfl (fun K hK => ?_); go_simp; refine hK _ _ ?_; clear hK K)
            refine q_nil ?_
            intro nq
            go_wp2_with fail
            go_roundw
            case rel => exact ⟨k + 1, by omega, by go_num, Lib.hid (uptoz_succ HU.out hkl HX.out HMX.out (fun h => absurd h hk0)), Lib.hid (grown_drewN HB3.out _), Lib.hid (seen_next hkl HX.out (MapAt.same (HS3.out HMX.out.1) rfl))⟩
            case measure => simp [intOf]; omega
      · have hlt' : ¬ (k : Int) < (L : Int) := by omega
        have hkL : k = l.length := by have := HL.out; omega
        have HK := Lib.hid hkL
        clear hkL
        go_wp2_with fail
        go_ret
        have hu := HU.out
        rw [HK.out] at hu
        exact ⟨ret_yes (zs_of_upto (by have := HL.out; omega) hu), HB.out⟩
end Go.Proofs.YtpnmhldaaaemeaaGreat.Snp
/- Chapter 24: may a value of a kind be. Printed by mk_kinds24.py. -/
namespace Go.Proofs.YtpnmhldaaaemeaaGreat.Snp
open Go.RowKit Go.Proofs.YtpnmhldaaaemeaaGreat.Pin Go.Proofs.YtpnmhldaaaemeaaGreat.Mps

/-- how great a value's parts are -/
structure VaB (v : Va) : Prop where
  kind : v.kind < 256
  text : v.text.size ≤ 140737488351232
  list : v.list.length ≤ 140737488351232
  hash : v.hash.length ≤ 140737488351232
  set : v.set.length ≤ 140737488351232
  zset : v.zset.length ≤ 140737488351232
  stream : v.stream.length ≤ 140737488351232
  pairs : ∀ e ∈ v.stream, e.pairs.length ≤ 140737488351232
  bits : ∀ s ∈ v.zset, s.2 < 18446744073709551616
  ids : v.ms < 18446744073709551616 ∧ v.seq < 18446744073709551616
abbrev vV (v : Va) (c : Cl) : Value := .agg #[.int .u8 (v.kind : Int), .string v.text, c.lv, c.hv, c.sv, c.zv, c.ev, .int .u64 (v.ms : Int), .int .u64 (v.seq : Int)]
theorem text_kind (v : Va) (c : Cl) (w : World) : Asks 29 #[vV v c] w (MayP v.text) := by
  unfold Asks
  go_enter Tryz.func29, Tryz.ntmps29
  go_wp2_with fail
  refine (may_any v.text _).mono ?_
  rintro e w' ⟨rfl, rfl⟩
  go_wp2_with fail
  go_ret
  exact ⟨rfl, (Below.refl _ _).alloc (Nat.le_refl _) _⟩
set_option maxHeartbeats 1000000 in
theorem list_kind (v : Va) (c : Cl) (w : World) (hv : ValAt w w.heap.size c v) (hB : VaB v) : Asks 33 #[vV v c] w (0 < v.list.length ∧ Ris MayP AnyP v.list) := by
  have HV := Lib.hid hv
  have HB := Lib.hid hB
  obtain ⟨lv, hv', sv, zv, ev⟩ := c
  obtain ⟨A, cp, e, _⟩ := hv.list
  obtain rfl : lv = .slice A v.list.length cp := e
  unfold Asks
  have HK := Lib.hid (fun (W : World) (hW : Below w.heap.size w W) (hs : w.heap.size ≤ W.heap.size) => (ris_list v.list _ W ((HV.out.list.below hW).more hs) HB.out.list))
  obtain ⟨n, hn⟩ : ∃ n, n = v.list.length := ⟨_, rfl⟩
  have hnb := hB.list
  rw [← hn] at HK hnb ⊢
  have HN := Lib.hid hn
  clear hv hn hB
  by_cases h0 : 0 < n
  · have h0' : (0 : Int) < (n : Int) := by omega
    by_cases h1 : ¬ Ris MayP AnyP v.list
    · have H1 := Lib.hid h1
      clear h1
      go_enter Tryz.func33, Tryz.ntmps33
      go_wp2_with fail
      refine ((HK.out _ ((Below.refl _ w).alloc (Nat.le_refl _) _) (by simp)).no H1.out).mono ?_
      rintro e w1 ⟨rfl, hb1⟩
      have HB1 : Hid (Below w.heap.size w w1) := Lib.hid (((Below.refl w.heap.size w).alloc (Nat.le_refl _) _).trans (hb1.mono (by simp)))
      clear hb1
      go_wp2_with fail
      go_ret
      exact ⟨ret_no (fun h => H1.out h.2), HB1.out⟩
    · have H1 := Lib.hid (Classical.not_not.1 h1)
      clear h1
      go_enter Tryz.func33, Tryz.ntmps33
      go_wp2_with fail
      refine ((HK.out _ ((Below.refl _ w).alloc (Nat.le_refl _) _) (by simp)).yes H1.out).mono ?_
      rintro e w1 ⟨rfl, hb1⟩
      have HB1 : Hid (Below w.heap.size w w1) := Lib.hid (((Below.refl w.heap.size w).alloc (Nat.le_refl _) _).trans (hb1.mono (by simp)))
      clear hb1
      go_wp2_with fail
      go_ret
      exact ⟨ret_yes ⟨h0, H1.out⟩, HB1.out⟩
  · have h0' : ¬ (0 : Int) < (n : Int) := by omega
    go_enter Tryz.func33, Tryz.ntmps33
    go_wp2_with fail
    go_ret
    exact ⟨ret_no (fun h => by first | exact h.elim | exact h0 h.1), (Below.refl _ _).alloc (Nat.le_refl _) _⟩
set_option maxHeartbeats 1000000 in
theorem hash_kind (v : Va) (c : Cl) (w : World) (hv : ValAt w w.heap.size c v) (hB : VaB v) : Asks 40 #[vV v c] w (0 < v.hash.length ∧ Ris PairP (fun p q => LtS p.1 q.1) v.hash) := by
  have HV := Lib.hid hv
  have HB := Lib.hid hB
  obtain ⟨lv, hv', sv, zv, ev⟩ := c
  obtain ⟨A, cp, e, _⟩ := hv.hash
  obtain rfl : hv' = .slice A v.hash.length cp := e
  unfold Asks
  have HK := Lib.hid (fun (W : World) (hW : Below w.heap.size w W) (hs : w.heap.size ≤ W.heap.size) => (ris_hash v.hash _ W ((HV.out.hash.below hW).more hs) HB.out.hash))
  obtain ⟨n, hn⟩ : ∃ n, n = v.hash.length := ⟨_, rfl⟩
  have hnb := hB.hash
  rw [← hn] at HK hnb ⊢
  have HN := Lib.hid hn
  clear hv hn hB
  by_cases h0 : 0 < n
  · have h0' : (0 : Int) < (n : Int) := by omega
    by_cases h1 : ¬ Ris PairP (fun p q => LtS p.1 q.1) v.hash
    · have H1 := Lib.hid h1
      clear h1
      go_enter Tryz.func40, Tryz.ntmps40
      go_wp2_with fail
      refine ((HK.out _ ((Below.refl _ w).alloc (Nat.le_refl _) _) (by simp)).no H1.out).mono ?_
      rintro e w1 ⟨rfl, hb1⟩
      have HB1 : Hid (Below w.heap.size w w1) := Lib.hid (((Below.refl w.heap.size w).alloc (Nat.le_refl _) _).trans (hb1.mono (by simp)))
      clear hb1
      go_wp2_with fail
      go_ret
      exact ⟨ret_no (fun h => H1.out h.2), HB1.out⟩
    · have H1 := Lib.hid (Classical.not_not.1 h1)
      clear h1
      go_enter Tryz.func40, Tryz.ntmps40
      go_wp2_with fail
      refine ((HK.out _ ((Below.refl _ w).alloc (Nat.le_refl _) _) (by simp)).yes H1.out).mono ?_
      rintro e w1 ⟨rfl, hb1⟩
      have HB1 : Hid (Below w.heap.size w w1) := Lib.hid (((Below.refl w.heap.size w).alloc (Nat.le_refl _) _).trans (hb1.mono (by simp)))
      clear hb1
      go_wp2_with fail
      go_ret
      exact ⟨ret_yes ⟨h0, H1.out⟩, HB1.out⟩
  · have h0' : ¬ (0 : Int) < (n : Int) := by omega
    go_enter Tryz.func40, Tryz.ntmps40
    go_wp2_with fail
    go_ret
    exact ⟨ret_no (fun h => by first | exact h.elim | exact h0 h.1), (Below.refl _ _).alloc (Nat.le_refl _) _⟩
set_option maxHeartbeats 1000000 in
theorem set_kind (v : Va) (c : Cl) (w : World) (hv : ValAt w w.heap.size c v) (hB : VaB v) : Asks 50 #[vV v c] w (0 < v.set.length ∧ Ris MayP LtS v.set) := by
  have HV := Lib.hid hv
  have HB := Lib.hid hB
  obtain ⟨lv, hv', sv, zv, ev⟩ := c
  obtain ⟨A, cp, e, _⟩ := hv.set
  obtain rfl : sv = .slice A v.set.length cp := e
  unfold Asks
  have HK := Lib.hid (fun (W : World) (hW : Below w.heap.size w W) (hs : w.heap.size ≤ W.heap.size) => (ris_set v.set _ W ((HV.out.set.below hW).more hs) HB.out.set))
  obtain ⟨n, hn⟩ : ∃ n, n = v.set.length := ⟨_, rfl⟩
  have hnb := hB.set
  rw [← hn] at HK hnb ⊢
  have HN := Lib.hid hn
  clear hv hn hB
  by_cases h0 : 0 < n
  · have h0' : (0 : Int) < (n : Int) := by omega
    by_cases h1 : ¬ Ris MayP LtS v.set
    · have H1 := Lib.hid h1
      clear h1
      go_enter Tryz.func50, Tryz.ntmps50
      go_wp2_with fail
      refine ((HK.out _ ((Below.refl _ w).alloc (Nat.le_refl _) _) (by simp)).no H1.out).mono ?_
      rintro e w1 ⟨rfl, hb1⟩
      have HB1 : Hid (Below w.heap.size w w1) := Lib.hid (((Below.refl w.heap.size w).alloc (Nat.le_refl _) _).trans (hb1.mono (by simp)))
      clear hb1
      go_wp2_with fail
      go_ret
      exact ⟨ret_no (fun h => H1.out h.2), HB1.out⟩
    · have H1 := Lib.hid (Classical.not_not.1 h1)
      clear h1
      go_enter Tryz.func50, Tryz.ntmps50
      go_wp2_with fail
      refine ((HK.out _ ((Below.refl _ w).alloc (Nat.le_refl _) _) (by simp)).yes H1.out).mono ?_
      rintro e w1 ⟨rfl, hb1⟩
      have HB1 : Hid (Below w.heap.size w w1) := Lib.hid (((Below.refl w.heap.size w).alloc (Nat.le_refl _) _).trans (hb1.mono (by simp)))
      clear hb1
      go_wp2_with fail
      go_ret
      exact ⟨ret_yes ⟨h0, H1.out⟩, HB1.out⟩
  · have h0' : ¬ (0 : Int) < (n : Int) := by omega
    go_enter Tryz.func50, Tryz.ntmps50
    go_wp2_with fail
    go_ret
    exact ⟨ret_no (fun h => by first | exact h.elim | exact h0 h.1), (Below.refl _ _).alloc (Nat.le_refl _) _⟩
set_option maxHeartbeats 1000000 in
theorem stream_kind (v : Va) (c : Cl) (w : World) (hv : ValAt w w.heap.size c v) (hB : VaB v) : Asks 61 #[vV v c] w (Ris (EntP (v.ms, v.seq)) ElessP v.stream) := by
  have HV := Lib.hid hv
  have HB := Lib.hid hB
  obtain ⟨lv, hv', sv, zv, ev⟩ := c
  obtain ⟨A, cp, e, _⟩ := hv.stream
  obtain rfl : ev = .slice A v.stream.length cp := e
  unfold Asks
  have HK := Lib.hid (fun (W : World) (hW : Below w.heap.size w W) (hs : w.heap.size ≤ W.heap.size) (b : Nat) (hb : b < W.heap.size) h7 h8 => (ris_stream v.stream _ b v.ms v.seq W ((HV.out.stream.below hW).more hs) HB.out.pairs hb h7 h8 HB.out.stream))
  obtain ⟨n, hn⟩ : ∃ n, n = v.stream.length := ⟨_, rfl⟩
  rw [← hn] at HK ⊢
  clear hv hn hB
  have hbo := heap_alloc_new w (.cells #[.int .u8 (v.kind : Int), .string v.text, lv, hv', sv, zv, .slice A n cp, .int .u64 (v.ms : Int), .int .u64 (v.seq : Int)] 42)
  have HC := Lib.hid (HK.out _ ((Below.refl _ w).alloc (Nat.le_refl _) _) (by simp) w.heap.size (by simp) (by rw [Lib.cell_of_heap hbo]; rfl) (by rw [Lib.cell_of_heap hbo]; rfl))
  clear hbo
  go_enter Tryz.func61, Tryz.ntmps61
  go_wp2_with fail
  refine HC.out.mono ?_
  rintro e w1 ⟨rfl, hb1⟩
  have HB1 : Hid (Below w.heap.size w w1) := Lib.hid (((Below.refl w.heap.size w).alloc (Nat.le_refl _) _).trans (hb1.mono (by simp)))
  clear hb1
  go_wp2_with fail
  go_ret
  exact ⟨rfl, HB1.out⟩
set_option maxHeartbeats 1000000 in
theorem zset_kind (v : Va) (c : Cl) (w : World) (hv : ValAt w w.heap.size c v) (hB : VaB v) : Asks 54 #[vV v c] w (0 < v.zset.length ∧ ZsP v.zset) := by
  have HV := Lib.hid hv
  have HB := Lib.hid hB
  obtain ⟨lv, hv', sv, zv, ev⟩ := c
  obtain ⟨A, cp, e, _⟩ := hv.zset
  obtain rfl : zv = .slice A v.zset.length cp := e
  unfold Asks
  have hmm := @run_makeMap Tryz.prog
  obtain ⟨n, hn⟩ : ∃ n, n = v.zset.length := ⟨_, rfl⟩
  have hnb := hB.zset
  have HZ : Hid (∀ (W : World) (b M : Nat), Below w.heap.size w W → w.heap.size ≤ M → W.heap[b]? = some (.cells #[.map (some M)] 113 (0, 0)) → SeenAt W M [] → Calls Tryz.prog 87 #[.slice A v.zset.length cp, .func (.func 88) #[] #[.pointer (some ⟨b, 0, none⟩)], .func (.func 91) #[] #[]] W fun e w' => e = .returned (.bool (pb (ZsP v.zset))) ∧ W.grownBy w' (some M)) :=
    Lib.hid (fun W b M hW hM hb hs => ris_zset v.zset _ w.heap.size b M W (HV.out.zset.below hW) hM HB.out.zset HB.out.bits hb hs)
  rw [← hn] at hnb HZ ⊢
  have HN := Lib.hid hn
  clear hv hn hB
  by_cases h0 : 0 < n
  · have h0' : (0 : Int) < (n : Int) := by omega
    go_enter Tryz.func54, Tryz.ntmps54
    go_wp2_with fail
    obtain ⟨W, hW⟩ : ∃ W, W = ((w.alloc (.cells #[.int .u8 (v.kind : Int), .string v.text, lv, hv', sv, .slice A n cp, ev, .int .u64 (v.ms : Int), .int .u64 (v.seq : Int)] 42)).alloc (.map #[] 0)).alloc (.cells #[.map (some (w.heap.size + 1))] 113) := ⟨_, rfl⟩
    rw [← hW]
    have hbW : Below w.heap.size w W := by rw [hW]; exact (((Below.refl w.heap.size w).alloc (Nat.le_refl _) _).alloc (by simp) _).alloc (by simp; omega) _
    have h1 : W.heap[w.heap.size + 2]? = some (.cells #[.map (some (w.heap.size + 1))] 113 (0, 0)) := by
      rw [hW]
      have := heap_alloc_new ((w.alloc (.cells #[.int .u8 (v.kind : Int), .string v.text, lv, hv', sv, .slice A n cp, ev, .int .u64 (v.ms : Int), .int .u64 (v.seq : Int)] 42)).alloc (.map #[] 0)) (.cells #[.map (some (w.heap.size + 1))] 113)
      have e : ((w.alloc (.cells #[.int .u8 (v.kind : Int), .string v.text, lv, hv', sv, .slice A n cp, ev, .int .u64 (v.ms : Int), .int .u64 (v.seq : Int)] 42)).alloc (.map #[] 0)).heap.size = w.heap.size + 2 := by simp
      rw [e] at this
      exact this
    have h2 : SeenAt W (w.heap.size + 1) [] := by
      refine ⟨#[], 0, ?_, rfl, MapKept.stamped_empty 0⟩
      rw [hW, Lib.alloc_old _ _ _ (by simp)]
      have := heap_alloc_new (w.alloc (.cells #[.int .u8 (v.kind : Int), .string v.text, lv, hv', sv, .slice A n cp, ev, .int .u64 (v.ms : Int), .int .u64 (v.seq : Int)] 42)) (.map #[] 0)
      have e : (w.alloc (.cells #[.int .u8 (v.kind : Int), .string v.text, lv, hv', sv, .slice A n cp, ev, .int .u64 (v.ms : Int), .int .u64 (v.seq : Int)] 42)).heap.size = w.heap.size + 1 := by simp
      rw [e] at this
      exact this
    refine (HZ.out W (w.heap.size + 2) (w.heap.size + 1) hbW (by omega) h1 h2).mono ?_
    rintro e w1 ⟨rfl, hg⟩
    have HB1 : Hid (Below w.heap.size w w1) := Lib.hid (hbW.trans (below_grown hg (by have := hbW.size; omega) (by omega)))
    clear hW hbW h1 h2 hg
    cases hz : pb (ZsP v.zset) with
    | true =>
      go_wp2_with fail
      go_ret
      exact ⟨ret_yes ⟨h0, of_pb hz⟩, HB1.out⟩
    | false =>
      go_wp2_with fail
      go_ret
      exact ⟨ret_no (fun h => not_pb hz h.2), HB1.out⟩
  · have h0' : ¬ (0 : Int) < (n : Int) := by omega
    go_enter Tryz.func54, Tryz.ntmps54
    go_wp2_with fail
    go_ret
    exact ⟨ret_no (fun h => by first | exact h.elim | exact h0 h.1), (((Below.refl _ w).alloc (Nat.le_refl _) _).alloc (by simp) _).alloc (by simp; omega) _⟩
end Go.Proofs.YtpnmhldaaaemeaaGreat.Snp
/- Chapter 24: has a value but what its kind has. -/
namespace Go.Proofs.YtpnmhldaaaemeaaGreat.Snp
open Go.RowKit Go.Proofs.YtpnmhldaaaemeaaGreat.Pin

theorem plain1_any (kd k : Nat) (bo : Bool) (b : Nat) (w : World) (h : w.cell? ⟨b, 0, none⟩ = some (.int .u8 (kd : Int))) :
    Calls Tryz.prog 76 #[.int .u8 (k : Int), .bool bo, .pointer (some ⟨b, 0, none⟩)] w fun e w' => e = .returned (.bool (pb (kd = k ∨ bo = true))) ∧ w = w' := by
  by_cases hk : kd = k
  · subst hk
    go_enter Tryz.func76, Tryz.ntmps76
    go_wp2_with fail
    go_ret
    exact ⟨ret_yes (by simp), rfl⟩
  · have hk' : ((kd : Int) == (k : Int)) = false := by
      cases hq : ((kd : Int) == (k : Int)) with
      | false => rfl
      | true => exact absurd (by have := eq_of_beq hq; omega) hk
    have HK := Lib.hid hk
    clear hk
    cases bo with
    | true =>
      go_enter Tryz.func76, Tryz.ntmps76
      go_wp2_with fail
      go_ret
      exact ⟨ret_yes (by simp), rfl⟩
    | false =>
      go_enter Tryz.func76, Tryz.ntmps76
      go_wp2_with fail
      go_ret
      exact ⟨ret_no (fun h => by rcases h with h | h; exact HK.out h; cases h), rfl⟩
/-- what is not its kind's is empty -/
def PlainP (v : Va) : Prop := (v.kind = 1 ∨ v.text = ⟨#[]⟩) ∧ (v.kind = 2 ∨ v.list.length = 0) ∧ (v.kind = 3 ∨ v.hash.length = 0) ∧ (v.kind = 4 ∨ v.set.length = 0) ∧ (v.kind = 5 ∨ v.zset.length = 0) ∧ (v.kind = 6 ∨ (v.stream.length = 0 ∧ v.ms = 0 ∧ v.seq = 0))
theorem empty_list : (⟨#[]⟩ : ByteArray).toList = [] := by rw [ByteArray.toList_eq]
theorem list_empty {s : ByteArray} (h : s.toList = []) : s = ⟨#[]⟩ := by
  rw [ByteArray.toList_eq] at h
  obtain ⟨⟨l⟩⟩ := s
  have : l = [] := h
  rw [this]
theorem plain_mk {v : Va} {n1 n2 n3 n4 n5 : Nat} (hn : n1 = v.list.length ∧ n2 = v.hash.length ∧ n3 = v.set.length ∧ n4 = v.zset.length ∧ n5 = v.stream.length)
    (h : (v.kind = 1 ∨ v.text.toList = []) ∧ (v.kind = 2 ∨ n1 = 0) ∧ (v.kind = 3 ∨ n2 = 0) ∧ (v.kind = 4 ∨ n3 = 0) ∧ (v.kind = 5 ∨ n4 = 0)) (h6 : v.kind = 6 ∨ (v.stream.length = 0 ∧ v.ms = 0 ∧ v.seq = 0)) : PlainP v := by
  obtain ⟨e1, e2, e3, e4, e5⟩ := hn
  obtain ⟨a1, a2, a3, a4, a5⟩ := h
  refine ⟨?_, by rcases a2 with h | h; exact .inl h; exact .inr (by omega), by rcases a3 with h | h; exact .inl h; exact .inr (by omega), by rcases a4 with h | h; exact .inl h; exact .inr (by omega), by rcases a5 with h | h; exact .inl h; exact .inr (by omega), h6⟩
  rcases a1 with h | h
  · exact .inl h
  · exact .inr (list_empty h)
set_option maxHeartbeats 4000000 in
theorem plain_any (v : Va) (c : Cl) (w : World) (hv : ValAt w w.heap.size c v) : Asks 21 #[vV v c] w (PlainP v) := by
  obtain ⟨lv, hv', sv, zv, ev⟩ := c
  obtain ⟨A1, c1, e1, _⟩ := hv.list
  obtain ⟨A2, c2, e2, _⟩ := hv.hash
  obtain ⟨A3, c3, e3, _⟩ := hv.set
  obtain ⟨A4, c4, e4, _⟩ := hv.zset
  obtain ⟨A5, c5, e5, _⟩ := hv.stream
  obtain rfl : lv = .slice A1 v.list.length c1 := e1
  obtain rfl : hv' = .slice A2 v.hash.length c2 := e2
  obtain rfl : sv = .slice A3 v.set.length c3 := e3
  obtain rfl : zv = .slice A4 v.zset.length c4 := e4
  obtain rfl : ev = .slice A5 v.stream.length c5 := e5
  clear hv
  unfold Asks
  have hbo := heap_alloc_new w (.cells #[.int .u8 (v.kind : Int), .string v.text, .slice A1 v.list.length c1, .slice A2 v.hash.length c2, .slice A3 v.set.length c3, .slice A4 v.zset.length c4, .slice A5 v.stream.length c5, .int .u64 (v.ms : Int), .int .u64 (v.seq : Int)] 42)
  have HC := Lib.hid (fun k bo => plain1_any v.kind k bo w.heap.size _ (by rw [Lib.cell_of_heap hbo]; rfl))
  clear hbo
  obtain ⟨n1, h1⟩ : ∃ n, n = v.list.length := ⟨_, rfl⟩
  obtain ⟨n2, h2⟩ : ∃ n, n = v.hash.length := ⟨_, rfl⟩
  obtain ⟨n3, h3⟩ : ∃ n, n = v.set.length := ⟨_, rfl⟩
  obtain ⟨n4, h4⟩ : ∃ n, n = v.zset.length := ⟨_, rfl⟩
  obtain ⟨n5, h5⟩ : ∃ n, n = v.stream.length := ⟨_, rfl⟩
  rw [← h1, ← h2, ← h3, ← h4, ← h5] at HC ⊢
  have HN := Lib.hid (And.intro h1 (And.intro h2 (And.intro h3 (And.intro h4 h5))))
  clear h1 h2 h3 h4 h5
  go_enter Tryz.func21, Tryz.ntmps21
  go_wp2_with fail
  refine (HC.out 1 _).mono ?_
  rintro e w' ⟨rfl, rfl⟩
  go_wp2_with fail
  rotate_left
  · go_ret
    exact ⟨ret_no (fun h => (show ¬ pb (v.kind = 1 ∨ v.text.toList = []) = true by assumption) (pb_true (by have := HN.out; rcases h.1 with h | h; exact .inl h; exact .inr (by rw [h]; exact empty_list)))), (Below.refl _ _).alloc (Nat.le_refl _) _⟩
  refine (HC.out 2 _).mono ?_
  rintro e w' ⟨rfl, rfl⟩
  go_wp2_with fail
  rotate_left
  · go_ret
    exact ⟨ret_no (fun h => (show ¬ pb (v.kind = 2 ∨ n1 = 0) = true by assumption) (pb_true (by have := HN.out; rcases h.2.1 with h | h; exact .inl h; exact .inr (by omega)))), (Below.refl _ _).alloc (Nat.le_refl _) _⟩
  refine (HC.out 3 _).mono ?_
  rintro e w' ⟨rfl, rfl⟩
  go_wp2_with fail
  rotate_left
  · go_ret
    exact ⟨ret_no (fun h => (show ¬ pb (v.kind = 3 ∨ n2 = 0) = true by assumption) (pb_true (by have := HN.out; rcases h.2.2.1 with h | h; exact .inl h; exact .inr (by omega)))), (Below.refl _ _).alloc (Nat.le_refl _) _⟩
  refine (HC.out 4 _).mono ?_
  rintro e w' ⟨rfl, rfl⟩
  go_wp2_with fail
  rotate_left
  · go_ret
    exact ⟨ret_no (fun h => (show ¬ pb (v.kind = 4 ∨ n3 = 0) = true by assumption) (pb_true (by have := HN.out; rcases h.2.2.2.1 with h | h; exact .inl h; exact .inr (by omega)))), (Below.refl _ _).alloc (Nat.le_refl _) _⟩
  refine (HC.out 5 _).mono ?_
  rintro e w' ⟨rfl, rfl⟩
  go_wp2_with fail
  all_goals first
    | (go_ret; exact ⟨ret_no (fun h => (show ¬ pb (v.kind = 5 ∨ n4 = 0) = true by assumption) (pb_true (by have := HN.out; rcases h.2.2.2.2.1 with h | h; exact .inl h; exact .inr (by omega)))), (Below.refl _ _).alloc (Nat.le_refl _) _⟩)
    | skip
  all_goals
    have p1 := of_pb (show pb (v.kind = 1 ∨ v.text.toList = []) = true by assumption)
    have p2 := of_pb (show pb (v.kind = 2 ∨ n1 = 0) = true by assumption)
    have p3 := of_pb (show pb (v.kind = 3 ∨ n2 = 0) = true by assumption)
    have p4 := of_pb (show pb (v.kind = 4 ∨ n3 = 0) = true by assumption)
    have p5 := of_pb (show pb (v.kind = 5 ∨ n4 = 0) = true by assumption)
    have HP := Lib.hid (And.intro p1 (And.intro p2 (And.intro p3 (And.intro p4 p5))))
    clear p1 p2 p3 p4 p5
    have qt : pb True = true := pb_true trivial
    by_cases h6 : v.kind = 6
    · have q6 := pb_true h6
      have H6 := Lib.hid h6
      clear h6
      refine (plain1_any v.kind 6 _ w.heap.size _ (by rw [Lib.cell_of_heap (heap_alloc_new w _)]; rfl)).mono ?_
      rintro e w' ⟨rfl, rfl⟩
      go_wp2_with fail
      go_ret
      exact ⟨ret_yes (plain_mk HN.out HP.out (.inl H6.out)), (Below.refl _ _).alloc (Nat.le_refl _) _⟩
    · have q6 := pb_false h6
      have H6 := Lib.hid h6
      clear h6
      refine (plain1_any v.kind 6 _ w.heap.size _ (by rw [Lib.cell_of_heap (heap_alloc_new w _)]; rfl)).mono ?_
      rintro e w' ⟨rfl, rfl⟩
      go_wp2_with fail
      go_ret
      first
        | exact ⟨ret_yes (plain_mk HN.out HP.out (.inr ⟨by have := HN.out; omega, by assumption, by assumption⟩)), (Below.refl _ _).alloc (Nat.le_refl _) _⟩
        | exact ⟨ret_no (fun h => by have h2 := HN.out; rcases h.2.2.2.2.2 with h | ⟨h3, h4, h5⟩; exact H6.out h; omega), (Below.refl _ _).alloc (Nat.le_refl _) _⟩
end Go.Proofs.YtpnmhldaaaemeaaGreat.Snp
/- Chapter 24: Check. -/
namespace Go.Proofs.YtpnmhldaaaemeaaGreat.Snp
open Go.RowKit Go.Proofs.YtpnmhldaaaemeaaGreat.Pin

abbrev fv (f : FuncId) : Value := .func (.func f) #[] #[]
abbrev kindsA : Array Value := #[.nilFunc, .nilFunc, .nilFunc, fv 29, fv 30, fv 31, fv 33, fv 36, fv 38, fv 40, fv 44, fv 47, fv 50, fv 52, fv 53, fv 54, fv 55, fv 58, fv 61, fv 62, fv 66]
abbrev zeroA : Array Value := #[.nilFunc, .nilFunc, .nilFunc, .nilFunc, .nilFunc, .nilFunc, .nilFunc, .nilFunc, .nilFunc, .nilFunc, .nilFunc, .nilFunc, .nilFunc, .nilFunc, .nilFunc, .nilFunc, .nilFunc, .nilFunc, .nilFunc, .nilFunc, .nilFunc]
theorem kinds_size : (Tryz.prog.info? 52).map (·.size) = some kindsA.size := by kernel_rfl
theorem wpList_built {P : Program} {ops : Array Oper} {rest : List Oper} {o : Oper} {a : Act} {w : World} {Q : Exit → Act → World → Prop} (hg : o.guard = none) (t : TypeId) (parts : Array (Nat × Operand)) (ho : o.op = .build t parts) (cells : Array Value)
    (hf : P.built t (parts.map fun (i, x) => (i, a.eval x)).toList = some cells) (h : wpList P ops Q rest (a.put o.dst (.agg cells)) w) : wpList P ops Q (o :: rest) a w := by
  refine wpList_build hg t parts ho (by rw [hf]; rfl) ?_
  rw [hf]
  exact h
set_option maxHeartbeats 2000000 in
set_option maxRecDepth 100000 in
theorem kinds_any (w : World) : Calls Tryz.prog 14 #[] w fun e w' => e = .returned (.agg kindsA) ∧ Below w.heap.size w w' := by
  go_enter Tryz.func14, Tryz.ntmps14
  go_wp2_with (first
    | (refine wpList_built (by rfl) 51 #[(0, Operand.func 29), (1, Operand.func 30), (2, Operand.func 31)] (by rfl) #[fv 29, fv 30, fv 31] (by kernel_rfl) ?_)
    | (refine wpList_built (by rfl) 51 #[(0, Operand.func 33), (1, Operand.func 36), (2, Operand.func 38)] (by rfl) #[fv 33, fv 36, fv 38] (by kernel_rfl) ?_)
    | (refine wpList_built (by rfl) 51 #[(0, Operand.func 40), (1, Operand.func 44), (2, Operand.func 47)] (by rfl) #[fv 40, fv 44, fv 47] (by kernel_rfl) ?_)
    | (refine wpList_built (by rfl) 51 #[(0, Operand.func 50), (1, Operand.func 52), (2, Operand.func 53)] (by rfl) #[fv 50, fv 52, fv 53] (by kernel_rfl) ?_)
    | (refine wpList_built (by rfl) 51 #[(0, Operand.func 54), (1, Operand.func 55), (2, Operand.func 58)] (by rfl) #[fv 54, fv 55, fv 58] (by kernel_rfl) ?_)
    | (refine wpList_built (by rfl) 51 #[(0, Operand.func 61), (1, Operand.func 62), (2, Operand.func 66)] (by rfl) #[fv 61, fv 62, fv 66] (by kernel_rfl) ?_)
    | (refine wpList_built (by rfl) 52 #[(1, .tmp 1), (2, .tmp 2), (3, .tmp 3), (4, .tmp 4), (5, .tmp 5), (6, .tmp 6)] (by rfl) kindsA (by kernel_rfl) ?_)
    | (refine wpList_store_row rfl 52 (.tmp 0) (.tmp 7) (by rfl) w.heap.size kindsA (by rfl) (by rfl) 52 zeroA (heap_alloc_new w _) kinds_size rfl (by kernel_rfl) ?_))
  rw [World.setRow_alloc_new]
  exact bodyPost_ret (results_cell_row rfl _ _ w.heap.size 52 kindsA (0, 0) _ rfl (heap_alloc_new w _) Tryz.underlying52 rfl kinds_size) rfl ⟨rfl, (Below.refl _ _).alloc (Nat.le_refl _) _⟩
end Go.Proofs.YtpnmhldaaaemeaaGreat.Snp
