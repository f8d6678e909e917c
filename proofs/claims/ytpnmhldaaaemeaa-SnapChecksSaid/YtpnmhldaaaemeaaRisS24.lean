/- Chapter 24: 'rising' over a sorted set's members. Printed by mk_riss24.py out of gen_risp24.py. -/
import Derived.Test.YtpnmhldaaaemeaaSeen24
import Derived.Laws.Entries
namespace Go.Proofs.Ytpnmhldaaaemeaa.Snp
open Go.RowKit Go.Proofs.Ytpnmhldaaaemeaa.Pin Go.Proofs.Ytpnmhldaaaemeaa.Mps

theorem run_store_float (P : Program) (w : World) (a : Addr) (m : Mode) (k : FloatKind) (b : Nat) : (store a (.float k b) m).run P w = stored P w a (.float k b) m := run_store P w a _ m rfl
attribute [local go_sem] run_store_float
/-- a sorted set's members -/
def ZsP (l : List Sc) : Prop := Ris ScP SaheadP l ∧ (l.map (·.1)).Nodup
def UptoZ (l : List Sc) (k : Nat) : Prop := Upto ScP SaheadP l k ∧ ((l.take k).map (·.1)).Nodup
def MayZ (l : List Sc) (k : Nat) (x : Sc) : Prop := x.1 ∉ (l.take k).map (·.1) ∧ ScP x
theorem uptoz_zero (l : List Sc) : UptoZ l 0 := ⟨upto_zero _ _ _, by simp⟩
theorem take_names {l : List Sc} {k : Nat} {x : Sc} (hk : k < l.length) (hx : x = l[k]) : (l.take (k + 1)).map (·.1) = (l.take k).map (·.1) ++ [x.1] := by
  rw [List.take_succ_eq_append_getElem hk, List.map_append, ← hx]
  rfl
theorem uptoz_succ {l : List Sc} {k : Nat} {x : Sc} (h : UptoZ l k) (hk : k < l.length) (hx : x = l[k]) (h1 : MayZ l k x) (h2 : ∀ _ : 0 < k, SaheadP (l[k - 1]'(by omega)) l[k]) : UptoZ l (k + 1) := by
  refine ⟨upto_succ h.1 hk (by rw [← hx]; exact h1.2) h2, ?_⟩
  rw [take_names hk hx, List.nodup_append]
  exact ⟨h.2, by simp, fun a ha b hb e => by
    obtain rfl := List.mem_singleton.1 hb
    exact h1.1 (e ▸ ha)⟩
theorem zs_of_upto {l : List Sc} (hl : l.length ≤ 1048576) (h : UptoZ l l.length) : ZsP l := ⟨ris_of_upto hl h.1, by have := h.2; rw [List.take_length] at this; exact this⟩
theorem zs_may {l : List Sc} {k : Nat} {x : Sc} (h : ZsP l) (hk : k < l.length) (hx : x = l[k]) : MayZ l k x := by
  refine ⟨fun hm => ?_, by rw [hx]; exact (h.1.2 k hk).1⟩
  have hn := h.2
  have e : l = l.take (k + 1) ++ l.drop (k + 1) := (List.take_append_drop _ _).symm
  rw [e, List.map_append, take_names hk hx, List.nodup_append] at hn
  have h2 := hn.1
  rw [List.nodup_append] at h2
  exact h2.2.2 _ hm x.1 (by simp) rfl
theorem seen_next {w : World} {M : Nat} {l : List Sc} {k : Nat} {x : Sc} (hk : k < l.length) (hx : x = l[k]) (h : SeenAt w M ((l.take k).map (·.1) ++ [x.1])) : SeenAt w M ((l.take (k + 1)).map (·.1)) := by
  rw [take_names hk hx]
  exact h
theorem asks_yes {f : FuncId} {args : Array Value} {w : World} {P : Prop} {R : World → Prop} (h : Calls Try.prog f args w fun e w' => e = .returned (.bool (pb P)) ∧ R w') (hP : P) : Calls Try.prog f args w fun e w' => e = .returned (.bool true) ∧ R w' := by
  rw [pb_true hP] at h
  exact h
theorem asks_no {f : FuncId} {args : Array Value} {w : World} {P : Prop} {R : World → Prop} (h : Calls Try.prog f args w fun e w' => e = .returned (.bool (pb P)) ∧ R w') (hP : ¬ P) : Calls Try.prog f args w fun e w' => e = .returned (.bool false) ∧ R w' := by
  rw [pb_false hP] at h
  exact h
theorem box_grown {wr w3 : World} {o : Obj} {n M : Nat} (hM : M < wr.heap.size) (hg : ((wr.alloc o).drewN n).grownBy w3 (some M)) : wr.grownBy w3 (some M) ∧ w3.heap[wr.heap.size]? = some o := by
  have hz : ((wr.alloc o).drewN n).heap.size = wr.heap.size + 1 := by show (wr.alloc o).heap.size = _; simp
  refine ⟨grown_trans (grown_drewN (World.grownBy_alloc wr o _) n) hg, ?_⟩
  rw [hg.block wr.heap.size (by omega) (fun e => by injection e with e; omega)]
  exact heap_alloc_new wr o
set_option maxHeartbeats 2000000 in
set_option maxRecDepth 100000 in
theorem ris_zset (l : List Sc) (v : Value) (B b M : Nat) (w : World) (hT : ScoredsAt w B v l) (hBM : B ≤ M) (hl : l.length ≤ 140737488351232) (hxs : ∀ s ∈ l, s.2 < 18446744073709551616) (hb : w.heap[b]? = some (.cells #[.map (some M)] 120 (0, 0))) (hM : SeenAt w M []) :
    Calls Try.prog 86 #[v, .func (.func 87) #[] #[.pointer (some ⟨b, 0, none⟩)], .func (.func 90) #[] #[]] w fun e w' => e = .returned (.bool (pb (ZsP l))) ∧ w.grownBy w' (some M) := by
  obtain ⟨A, c, rfl, hT⟩ := hT
  have hbl : b < w.heap.size := (Array.getElem?_eq_some_iff.1 hb).1
  have hMl := MapAt.lt hM
  have hbM : b ≠ M := by
    intro e
    obtain ⟨es, clock, h1, _⟩ := hM
    rw [e, h1] at hb
    cases hb
  obtain ⟨L, hL⟩ : ∃ L, L = l.length := ⟨_, rfl⟩
  rw [← hL] at hl ⊢
  have HL := Lib.hid hL
  have HT := Lib.hid hT
  have HXS := Lib.hid hxs
  have HBH := Lib.hid hb
  have HM0 := Lib.hid hM
  clear hL hT hxs hb hM
  by_cases hbig : (1048576 : Int) < (L : Int)
  · rw [pb_false (show ¬ ZsP l from fun h => by have := h.1.1; have := HL.out; omega)]
    go_enter Try.func86, Try.ntmps86
    go_wp2_with fail
    go_ret
    exact ⟨rfl, World.grownBy.refl _ _⟩
  · go_enter Try.func86, Try.ntmps86
    go_wp2_with fail
    go_loopw [14] (fun i wr => ∃ (k : Nat), k ≤ L ∧ i = .int .i64 k ∧ Hid (UptoZ l k) ∧ Hid (w.grownBy wr (some M)) ∧ Hid (SeenAt wr M ((l.take k).map (·.1)))) (fun i _ => L - (intOf i).toNat)
    case atStart => exact ⟨0, by omega, rfl, Lib.hid (uptoz_zero l), Lib.hid (World.grownBy.refl _ _), HM0⟩
    case round =>
      obtain ⟨k, hk, rfl, HU, HB, HSN⟩ := hrel
      by_cases hlt : k < L
      · have hlt' : (k : Int) < (L : Int) := by omega
        have hkl : k < l.length := by rw [← HL.out]; exact hlt
        obtain ⟨r, o, rfl, hr, hc⟩ := HT.out (by have := HL.out; omega)
        have hsz := HB.out.size
        have hrl : r < w.heap.size := by omega
        obtain ⟨hca, hcb⟩ := hc k hkl
        have hold : ∀ W, w.grownBy W (some M) → ∀ q, W.cell? ⟨r, q, none⟩ = w.cell? ⟨r, q, none⟩ := fun W hW q => World.cell?_of_block (hW.block r hrl (fun e => by injection e with e; omega))
        have hck := (hold wr HB.out _).trans hca
        have hck2 := (hold wr HB.out _).trans hcb
        have hxx : (l[k]).2 < 18446744073709551616 := HXS.out _ (List.getElem_mem _)
        obtain ⟨x, hx⟩ : ∃ x, x = l[k] := ⟨_, rfl⟩
        rw [← hx] at hck hck2 hxx
        have HX := Lib.hid hx
        have HC := Lib.hid hc
        have HOLD := Lib.hid hold
        have hbr : wr.heap[b]? = some (.cells #[.map (some M)] 120 (0, 0)) := (HB.out.block b hbl (fun e => hbM (by injection e))).trans HBH.out
        have HMAY : Hid (∀ n, Calls Try.prog 87 #[.agg #[.string x.1, .float .f64 x.2], .pointer (some ⟨b, 0, none⟩)] ((wr.alloc (.cells #[.string x.1, .float .f64 x.2] 99)).drewN n) fun e w' => e = .returned (.bool (pb (x.1 ∉ (l.take k).map (·.1) ∧ ScP x))) ∧ (x.1 ∉ (l.take k).map (·.1) → SeenAt w' M ((l.take k).map (·.1) ++ [x.1])) ∧ ((wr.alloc (.cells #[.string x.1, .float .f64 x.2] 99)).drewN n).grownBy w' (some M)) :=
          Lib.hid (fun n => scored1_any x b M _ _ hxx ((Lib.alloc_old wr _ _ (by omega)).trans hbr) (MapAt.same HSN.out (Lib.alloc_old wr _ _ (by omega))))
        clear hold hbr hxx
        clear hc hca hcb hx
        go_wp2_with fail
        by_cases hm : ¬ MayZ l k x
        · have HN := Lib.hid hm
          clear hm
          refine wp_region_q [0,1,2,0,0,0,0,0,0,0,0,0,0,1,1,2,0,0,0] (by kernel_rfl) (by kernel_rfl) ?_
          (refine q_pure_n rfl (fun K hK => ?_); go_simp; refine hK _ _ ?_; clear hK K)
          (refine q_read_n rfl (fun K hK => ?_); go_simp; refine hK _ _ ?_; clear hK K)
          (refine q_write_n rfl (fun K hK => ?_); go_simp; intro nw; refine (asks_no (R := fun w' => (x.1 ∉ (l.take k).map (·.1) → SeenAt w' M ((l.take k).map (·.1) ++ [x.1])) ∧ _) (HMAY.out _) HN.out).mono ?_; rintro e w3 ⟨rfl, hs3, hg3⟩; obtain ⟨hbb, hbo⟩ := box_grown (Nat.lt_of_lt_of_le hMl hsz) hg3; clear hg3; obtain ⟨w3, rfl⟩ : ∃ w5, w3 = World.drewN w5 0 := ⟨w3, rfl⟩; have HB3 : Hid (w.grownBy w3 (some M)) := Lib.hid (grown_trans HB.out hbb); have HS3 : Hid (x.1 ∉ (l.take k).map (·.1) → SeenAt w3 M ((l.take k).map (·.1) ++ [x.1])) := Lib.hid hs3; clear hs3; have hsz3 := HB3.out.size; have hbo : w3.heap[wr.heap.size]? = _ := hbo; have hx3 : w3.cell? ⟨wr.heap.size, 0, none⟩ = some (.string x.1) := (by rw [Lib.cell_of_heap hbo]; rfl); have hx4 : w3.cell? ⟨wr.heap.size, 1, none⟩ = some (.float .f64 x.2) := (by rw [Lib.cell_of_heap hbo]; rfl); clear hbb hbo; refine ⟨_, rfl, _, ⟨_, rfl⟩, hK _ _ ?_⟩; clear hK K)
          (refine q_pure_n rfl (fun K hK => ?_); go_simp; refine hK _ _ ?_; clear hK K)
          (refine q_pure_n rfl (fun K hK => ?_); go_simp; refine hK _ _ ?_; clear hK K)
          first | (refine q_pure_x rfl ?hy (fun K hK => ?_); (case hy => rfl); go_simp; refine hK _ _ ?_; clear hK K) | (refine q_pure_u rfl ?hy (fun K hK => ?_); (case hy => rfl); go_simp; refine hK _ _ ?_; clear hK K) | (refine q_pure_y rfl ?hy (fun K hK => ?_); (case hy => rfl); go_simp; refine hK _ _ ?_; clear hK K)
          first | (refine q_pure_x rfl ?hy (fun K hK => ?_); (case hy => rfl); go_simp; refine hK _ _ ?_; clear hK K) | (refine q_pure_u rfl ?hy (fun K hK => ?_); (case hy => rfl); go_simp; refine hK _ _ ?_; clear hK K) | (refine q_pure_y rfl ?hy (fun K hK => ?_); (case hy => rfl); go_simp; refine hK _ _ ?_; clear hK K)
          first | (refine q_pure_x rfl ?hy (fun K hK => ?_); (case hy => rfl); go_simp; refine hK _ _ ?_; clear hK K) | (refine q_pure_u rfl ?hy (fun K hK => ?_); (case hy => rfl); go_simp; refine hK _ _ ?_; clear hK K) | (refine q_pure_y rfl ?hy (fun K hK => ?_); (case hy => rfl); go_simp; refine hK _ _ ?_; clear hK K)
          first | (refine q_pure_x rfl ?hy (fun K hK => ?_); (case hy => rfl); go_simp; refine hK _ _ ?_; clear hK K) | (refine q_pure_u rfl ?hy (fun K hK => ?_); (case hy => rfl); go_simp; refine hK _ _ ?_; clear hK K) | (refine q_pure_y rfl ?hy (fun K hK => ?_); (case hy => rfl); go_simp; refine hK _ _ ?_; clear hK K)
          first | (refine q_pure_x rfl ?hy (fun K hK => ?_); (case hy => rfl); go_simp; refine hK _ _ ?_; clear hK K) | (refine q_pure_u rfl ?hy (fun K hK => ?_); (case hy => rfl); go_simp; refine hK _ _ ?_; clear hK K) | (refine q_pure_y rfl ?hy (fun K hK => ?_); (case hy => rfl); go_simp; refine hK _ _ ?_; clear hK K)
          first | (refine q_pure_x rfl ?hy (fun K hK => ?_); (case hy => rfl); go_simp; refine hK _ _ ?_; clear hK K) | (refine q_pure_u rfl ?hy (fun K hK => ?_); (case hy => rfl); go_simp; refine hK _ _ ?_; clear hK K) | (refine q_pure_y rfl ?hy (fun K hK => ?_); (case hy => rfl); go_simp; refine hK _ _ ?_; clear hK K)
          first | (refine q_pure_x rfl ?hy (fun K hK => ?_); (case hy => rfl); go_simp; refine hK _ _ ?_; clear hK K) | (refine q_pure_u rfl ?hy (fun K hK => ?_); (case hy => rfl); go_simp; refine hK _ _ ?_; clear hK K) | (refine q_pure_y rfl ?hy (fun K hK => ?_); (case hy => rfl); go_simp; refine hK _ _ ?_; clear hK K)
          first | (refine q_pure_x rfl ?hy (fun K hK => ?_); (case hy => rfl); go_simp; refine hK _ _ ?_; clear hK K) | (refine q_pure_u rfl ?hy (fun K hK => ?_); (case hy => rfl); go_simp; refine hK _ _ ?_; clear hK K) | (refine q_pure_y rfl ?hy (fun K hK => ?_); (case hy => rfl); go_simp; refine hK _ _ ?_; clear hK K)
          first | (refine q_read_x rfl ?hy (fun K hK => ?_); (case hy => rfl); go_simp; refine hK _ _ ?_; clear hK K) | (refine q_read_u rfl ?hy (fun K hK => ?_); (case hy => rfl); go_simp; refine hK _ _ ?_; clear hK K) | (refine q_read_y rfl ?hy (fun K hK => ?_); (case hy => rfl); go_simp; refine hK _ _ ?_; clear hK K)
          first | (refine q_read_x rfl ?hy (fun K hK => ?_); (case hy => rfl); go_simp; refine hK _ _ ?_; clear hK K) | (refine q_read_u rfl ?hy (fun K hK => ?_); (case hy => rfl); go_simp; refine hK _ _ ?_; clear hK K) | (refine q_read_y rfl ?hy (fun K hK => ?_); (case hy => rfl); go_simp; refine hK _ _ ?_; clear hK K)
          first | (refine q_write_x rfl ?hy (fun K hK => ?_); (case hy => rfl); go_simp; refine hK _ _ ?_; clear hK K) | (refine q_write_u rfl ?hy (fun K hK => ?_); (case hy => rfl); go_simp; refine hK _ _ ?_; clear hK K) | (refine q_write_y rfl ?hy (fun K hK => ?_); (case hy => rfl); go_simp; intro nw; fail; refine ⟨_, rfl, _, ⟨_, rfl⟩, hK _ _ ?_⟩; clear hK K)
          first | (refine q_pure_x rfl ?hy (fun K hK => ?_); (case hy => rfl); go_simp; refine hK _ _ ?_; clear hK K) | (refine q_pure_u rfl ?hy (fun K hK => ?_); (case hy => rfl); go_simp; refine hK _ _ ?_; clear hK K) | (refine q_pure_y rfl ?hy (fun K hK => ?_); (case hy => rfl); go_simp; refine hK _ _ ?_; clear hK K)
          first | (refine q_pure_x rfl ?hy (fun K hK => ?_); (case hy => rfl); go_simp; refine hK _ _ ?_; clear hK K) | (refine q_pure_u rfl ?hy (fun K hK => ?_); (case hy => rfl); go_simp; refine hK _ _ ?_; clear hK K) | (refine q_pure_y rfl ?hy (fun K hK => ?_); (case hy => rfl); go_simp; refine hK _ _ ?_; clear hK K)
          (refine q_pure_n rfl (fun K hK => ?_); go_simp; refine hK _ _ ?_; clear hK K)
          refine q_nil ?_
          intro nq
          go_wp2_with fail
          go_ret
          refine ⟨?_, grown_drewN HB3.out _⟩
          exact ret_no (fun h => HN.out (zs_may h hkl HX.out))
        · have HMX := Lib.hid (Classical.not_not.1 hm)
          clear hm
          by_cases hk0 : 0 < k
          · have hk0' : (0 : Int) < (k : Int) := by omega
            obtain ⟨hcp, hcq⟩ := HC.out (k - 1) (by omega)
            obtain ⟨y, hy⟩ : ∃ y, y = l[k - 1] := ⟨_, rfl⟩
            rw [← hy] at hcp hcq
            have HY := Lib.hid hy
            obtain ⟨kp, hkp⟩ : ∃ kp, kp = k - 1 := ⟨_, rfl⟩
            have hkpl : (kp : Int) < (L : Int) := by omega
            have hwk : IntKind.i64.wrap ((k : Int) - 1) = (kp : Int) := by rw [IntKind.wrap_i64]; omega
            rw [← hkp] at hcp hcq
            clear hy hkp
            by_cases ha : ¬ SaheadP y x
            · have HN := Lib.hid ha
              clear ha
              refine wp_region_q [0,1,2,0,0,0,0,0,0,0,0,0,0,1,1,2,0,0,0] (by kernel_rfl) (by kernel_rfl) ?_
              (refine q_pure_n rfl (fun K hK => ?_); go_simp; refine hK _ _ ?_; clear hK K)
              (refine q_read_n rfl (fun K hK => ?_); go_simp; refine hK _ _ ?_; clear hK K)
              (refine q_write_n rfl (fun K hK => ?_); go_simp; intro nw; refine (asks_yes (R := fun w' => (x.1 ∉ (l.take k).map (·.1) → SeenAt w' M ((l.take k).map (·.1) ++ [x.1])) ∧ _) (HMAY.out _) HMX.out).mono ?_; rintro e w3 ⟨rfl, hs3, hg3⟩; obtain ⟨hbb, hbo⟩ := box_grown (Nat.lt_of_lt_of_le hMl hsz) hg3; clear hg3; obtain ⟨w3, rfl⟩ : ∃ w5, w3 = World.drewN w5 0 := ⟨w3, rfl⟩; have HB3 : Hid (w.grownBy w3 (some M)) := Lib.hid (grown_trans HB.out hbb); have HS3 : Hid (x.1 ∉ (l.take k).map (·.1) → SeenAt w3 M ((l.take k).map (·.1) ++ [x.1])) := Lib.hid hs3; clear hs3; have hsz3 := HB3.out.size; have hbo : w3.heap[wr.heap.size]? = _ := hbo; have hx3 : w3.cell? ⟨wr.heap.size, 0, none⟩ = some (.string x.1) := (by rw [Lib.cell_of_heap hbo]; rfl); have hx4 : w3.cell? ⟨wr.heap.size, 1, none⟩ = some (.float .f64 x.2) := (by rw [Lib.cell_of_heap hbo]; rfl); clear hbb hbo; have hy3 : w3.cell? ⟨r, o + kp * 2, none⟩ = some (.string y.1) := (HOLD.out w3 HB3.out _).trans hcp; have hy4 : w3.cell? ⟨r, o + kp * 2 + 1, none⟩ = some (.float .f64 y.2) := (HOLD.out w3 HB3.out _).trans hcq; refine ⟨_, rfl, _, ⟨_, rfl⟩, hK _ _ ?_⟩; clear hK K)
              (refine q_pure_n rfl (fun K hK => ?_); go_simp; refine hK _ _ ?_; clear hK K)
              (refine q_pure_n rfl (fun K hK => ?_); go_simp; refine hK _ _ ?_; clear hK K)
              first | (refine q_pure_x rfl ?hy (fun K hK => ?_); (case hy => rfl); go_simp; refine hK _ _ ?_; clear hK K) | (refine q_pure_u rfl ?hy (fun K hK => ?_); (case hy => rfl); go_simp; refine hK _ _ ?_; clear hK K) | (refine q_pure_y rfl ?hy (fun K hK => ?_); (case hy => rfl); go_simp; refine hK _ _ ?_; clear hK K)
              first | (refine q_pure_x rfl ?hy (fun K hK => ?_); (case hy => rfl); go_simp; refine hK _ _ ?_; clear hK K) | (refine q_pure_u rfl ?hy (fun K hK => ?_); (case hy => rfl); go_simp; refine hK _ _ ?_; clear hK K) | (refine q_pure_y rfl ?hy (fun K hK => ?_); (case hy => rfl); go_simp; refine hK _ _ ?_; clear hK K)
              first | (refine q_pure_x rfl ?hy (fun K hK => ?_); (case hy => rfl); go_simp; refine hK _ _ ?_; clear hK K) | (refine q_pure_u rfl ?hy (fun K hK => ?_); (case hy => rfl); go_simp; refine hK _ _ ?_; clear hK K) | (refine q_pure_y rfl ?hy (fun K hK => ?_); (case hy => rfl); go_simp; refine hK _ _ ?_; clear hK K)
              first | (refine q_pure_x rfl ?hy (fun K hK => ?_); (case hy => rfl); go_simp; refine hK _ _ ?_; clear hK K) | (refine q_pure_u rfl ?hy (fun K hK => ?_); (case hy => rfl); go_simp; refine hK _ _ ?_; clear hK K) | (refine q_pure_y rfl ?hy (fun K hK => ?_); (case hy => rfl); go_simp; refine hK _ _ ?_; clear hK K)
              first | (refine q_pure_x rfl ?hy (fun K hK => ?_); (case hy => rfl); go_simp; refine hK _ _ ?_; clear hK K) | (refine q_pure_u rfl ?hy (fun K hK => ?_); (case hy => rfl); go_simp; refine hK _ _ ?_; clear hK K) | (refine q_pure_y rfl ?hy (fun K hK => ?_); (case hy => rfl); go_simp; refine hK _ _ ?_; clear hK K)
              first | (refine q_pure_x rfl ?hy (fun K hK => ?_); (case hy => rfl); go_simp; refine hK _ _ ?_; clear hK K) | (refine q_pure_u rfl ?hy (fun K hK => ?_); (case hy => rfl); go_simp; refine hK _ _ ?_; clear hK K) | (refine q_pure_y rfl ?hy (fun K hK => ?_); (case hy => rfl); go_simp; refine hK _ _ ?_; clear hK K)
              first | (refine q_pure_x rfl ?hy (fun K hK => ?_); (case hy => rfl); go_simp; refine hK _ _ ?_; clear hK K) | (refine q_pure_u rfl ?hy (fun K hK => ?_); (case hy => rfl); go_simp; refine hK _ _ ?_; clear hK K) | (refine q_pure_y rfl ?hy (fun K hK => ?_); (case hy => rfl); go_simp; refine hK _ _ ?_; clear hK K)
              first | (refine q_pure_x rfl ?hy (fun K hK => ?_); (case hy => rfl); go_simp; refine hK _ _ ?_; clear hK K) | (refine q_pure_u rfl ?hy (fun K hK => ?_); (case hy => rfl); go_simp; refine hK _ _ ?_; clear hK K) | (refine q_pure_y rfl ?hy (fun K hK => ?_); (case hy => rfl); go_simp; refine hK _ _ ?_; clear hK K)
              first | (refine q_read_x rfl ?hy (fun K hK => ?_); (case hy => rfl); go_simp; refine hK _ _ ?_; clear hK K) | (refine q_read_u rfl ?hy (fun K hK => ?_); (case hy => rfl); go_simp; refine hK _ _ ?_; clear hK K) | (refine q_read_y rfl ?hy (fun K hK => ?_); (case hy => rfl); go_simp; refine hK _ _ ?_; clear hK K)
              first | (refine q_read_x rfl ?hy (fun K hK => ?_); (case hy => rfl); go_simp; refine hK _ _ ?_; clear hK K) | (refine q_read_u rfl ?hy (fun K hK => ?_); (case hy => rfl); go_simp; refine hK _ _ ?_; clear hK K) | (refine q_read_y rfl ?hy (fun K hK => ?_); (case hy => rfl); go_simp; refine hK _ _ ?_; clear hK K)
              first | (refine q_write_x rfl ?hy (fun K hK => ?_); (case hy => rfl); go_simp; refine hK _ _ ?_; clear hK K) | (refine q_write_u rfl ?hy (fun K hK => ?_); (case hy => rfl); go_simp; refine hK _ _ ?_; clear hK K) | (refine q_write_y rfl ?hy (fun K hK => ?_); (case hy => rfl); go_simp; intro nw; refine ((sless2_any y x _).no HN.out).mono ?_; rintro e w4 ⟨rfl, hb4⟩; obtain ⟨w4, rfl⟩ : ∃ w5, w4 = World.drewN w5 0 := ⟨w4, rfl⟩; have HB4 : Hid (w.grownBy w4 (some M)) := Lib.hid (grown_trans (grown_drewN HB3.out _) (grown_below M hb4)); have HM4 : Hid (w4.heap[M]? = w3.heap[M]?) := Lib.hid (hb4.block M (by show M < w3.heap.size; omega)); clear hb4; refine ⟨_, rfl, _, ⟨_, rfl⟩, hK _ _ ?_⟩; clear hK K)
              first | (refine q_pure_x rfl ?hy (fun K hK => ?_); (case hy => rfl); go_simp; refine hK _ _ ?_; clear hK K) | (refine q_pure_u rfl ?hy (fun K hK => ?_); (case hy => rfl); go_simp; refine hK _ _ ?_; clear hK K) | (refine q_pure_y rfl ?hy (fun K hK => ?_); (case hy => rfl); go_simp; refine hK _ _ ?_; clear hK K)
              first | (refine q_pure_x rfl ?hy (fun K hK => ?_); (case hy => rfl); go_simp; refine hK _ _ ?_; clear hK K) | (refine q_pure_u rfl ?hy (fun K hK => ?_); (case hy => rfl); go_simp; refine hK _ _ ?_; clear hK K) | (refine q_pure_y rfl ?hy (fun K hK => ?_); (case hy => rfl); go_simp; refine hK _ _ ?_; clear hK K)
              (refine q_pure_n rfl (fun K hK => ?_); go_simp; refine hK _ _ ?_; clear hK K)
              refine q_nil ?_
              intro nq
              go_wp2_with fail
              go_ret
              refine ⟨?_, grown_drewN HB4.out _⟩
              refine ret_no (fun h => ?_)
              have := (h.1.2 k hkl).2 hk0
              rw [← HX.out, ← HY.out] at this
              exact HN.out this
            · have HN := Lib.hid (Classical.not_not.1 ha)
              clear ha
              refine wp_region_q [0,1,2,0,0,0,0,0,0,0,0,0,0,1,1,2,0,0,0] (by kernel_rfl) (by kernel_rfl) ?_
              (refine q_pure_n rfl (fun K hK => ?_); go_simp; refine hK _ _ ?_; clear hK K)
              (refine q_read_n rfl (fun K hK => ?_); go_simp; refine hK _ _ ?_; clear hK K)
              (refine q_write_n rfl (fun K hK => ?_); go_simp; intro nw; refine (asks_yes (R := fun w' => (x.1 ∉ (l.take k).map (·.1) → SeenAt w' M ((l.take k).map (·.1) ++ [x.1])) ∧ _) (HMAY.out _) HMX.out).mono ?_; rintro e w3 ⟨rfl, hs3, hg3⟩; obtain ⟨hbb, hbo⟩ := box_grown (Nat.lt_of_lt_of_le hMl hsz) hg3; clear hg3; obtain ⟨w3, rfl⟩ : ∃ w5, w3 = World.drewN w5 0 := ⟨w3, rfl⟩; have HB3 : Hid (w.grownBy w3 (some M)) := Lib.hid (grown_trans HB.out hbb); have HS3 : Hid (x.1 ∉ (l.take k).map (·.1) → SeenAt w3 M ((l.take k).map (·.1) ++ [x.1])) := Lib.hid hs3; clear hs3; have hsz3 := HB3.out.size; have hbo : w3.heap[wr.heap.size]? = _ := hbo; have hx3 : w3.cell? ⟨wr.heap.size, 0, none⟩ = some (.string x.1) := (by rw [Lib.cell_of_heap hbo]; rfl); have hx4 : w3.cell? ⟨wr.heap.size, 1, none⟩ = some (.float .f64 x.2) := (by rw [Lib.cell_of_heap hbo]; rfl); clear hbb hbo; have hy3 : w3.cell? ⟨r, o + kp * 2, none⟩ = some (.string y.1) := (HOLD.out w3 HB3.out _).trans hcp; have hy4 : w3.cell? ⟨r, o + kp * 2 + 1, none⟩ = some (.float .f64 y.2) := (HOLD.out w3 HB3.out _).trans hcq; refine ⟨_, rfl, _, ⟨_, rfl⟩, hK _ _ ?_⟩; clear hK K)
              (refine q_pure_n rfl (fun K hK => ?_); go_simp; refine hK _ _ ?_; clear hK K)
              (refine q_pure_n rfl (fun K hK => ?_); go_simp; refine hK _ _ ?_; clear hK K)
              first | (refine q_pure_x rfl ?hy (fun K hK => ?_); (case hy => rfl); go_simp; refine hK _ _ ?_; clear hK K) | (refine q_pure_u rfl ?hy (fun K hK => ?_); (case hy => rfl); go_simp; refine hK _ _ ?_; clear hK K) | (refine q_pure_y rfl ?hy (fun K hK => ?_); (case hy => rfl); go_simp; refine hK _ _ ?_; clear hK K)
              first | (refine q_pure_x rfl ?hy (fun K hK => ?_); (case hy => rfl); go_simp; refine hK _ _ ?_; clear hK K) | (refine q_pure_u rfl ?hy (fun K hK => ?_); (case hy => rfl); go_simp; refine hK _ _ ?_; clear hK K) | (refine q_pure_y rfl ?hy (fun K hK => ?_); (case hy => rfl); go_simp; refine hK _ _ ?_; clear hK K)
              first | (refine q_pure_x rfl ?hy (fun K hK => ?_); (case hy => rfl); go_simp; refine hK _ _ ?_; clear hK K) | (refine q_pure_u rfl ?hy (fun K hK => ?_); (case hy => rfl); go_simp; refine hK _ _ ?_; clear hK K) | (refine q_pure_y rfl ?hy (fun K hK => ?_); (case hy => rfl); go_simp; refine hK _ _ ?_; clear hK K)
              first | (refine q_pure_x rfl ?hy (fun K hK => ?_); (case hy => rfl); go_simp; refine hK _ _ ?_; clear hK K) | (refine q_pure_u rfl ?hy (fun K hK => ?_); (case hy => rfl); go_simp; refine hK _ _ ?_; clear hK K) | (refine q_pure_y rfl ?hy (fun K hK => ?_); (case hy => rfl); go_simp; refine hK _ _ ?_; clear hK K)
              first | (refine q_pure_x rfl ?hy (fun K hK => ?_); (case hy => rfl); go_simp; refine hK _ _ ?_; clear hK K) | (refine q_pure_u rfl ?hy (fun K hK => ?_); (case hy => rfl); go_simp; refine hK _ _ ?_; clear hK K) | (refine q_pure_y rfl ?hy (fun K hK => ?_); (case hy => rfl); go_simp; refine hK _ _ ?_; clear hK K)
              first | (refine q_pure_x rfl ?hy (fun K hK => ?_); (case hy => rfl); go_simp; refine hK _ _ ?_; clear hK K) | (refine q_pure_u rfl ?hy (fun K hK => ?_); (case hy => rfl); go_simp; refine hK _ _ ?_; clear hK K) | (refine q_pure_y rfl ?hy (fun K hK => ?_); (case hy => rfl); go_simp; refine hK _ _ ?_; clear hK K)
              first | (refine q_pure_x rfl ?hy (fun K hK => ?_); (case hy => rfl); go_simp; refine hK _ _ ?_; clear hK K) | (refine q_pure_u rfl ?hy (fun K hK => ?_); (case hy => rfl); go_simp; refine hK _ _ ?_; clear hK K) | (refine q_pure_y rfl ?hy (fun K hK => ?_); (case hy => rfl); go_simp; refine hK _ _ ?_; clear hK K)
              first | (refine q_pure_x rfl ?hy (fun K hK => ?_); (case hy => rfl); go_simp; refine hK _ _ ?_; clear hK K) | (refine q_pure_u rfl ?hy (fun K hK => ?_); (case hy => rfl); go_simp; refine hK _ _ ?_; clear hK K) | (refine q_pure_y rfl ?hy (fun K hK => ?_); (case hy => rfl); go_simp; refine hK _ _ ?_; clear hK K)
              first | (refine q_read_x rfl ?hy (fun K hK => ?_); (case hy => rfl); go_simp; refine hK _ _ ?_; clear hK K) | (refine q_read_u rfl ?hy (fun K hK => ?_); (case hy => rfl); go_simp; refine hK _ _ ?_; clear hK K) | (refine q_read_y rfl ?hy (fun K hK => ?_); (case hy => rfl); go_simp; refine hK _ _ ?_; clear hK K)
              first | (refine q_read_x rfl ?hy (fun K hK => ?_); (case hy => rfl); go_simp; refine hK _ _ ?_; clear hK K) | (refine q_read_u rfl ?hy (fun K hK => ?_); (case hy => rfl); go_simp; refine hK _ _ ?_; clear hK K) | (refine q_read_y rfl ?hy (fun K hK => ?_); (case hy => rfl); go_simp; refine hK _ _ ?_; clear hK K)
              first | (refine q_write_x rfl ?hy (fun K hK => ?_); (case hy => rfl); go_simp; refine hK _ _ ?_; clear hK K) | (refine q_write_u rfl ?hy (fun K hK => ?_); (case hy => rfl); go_simp; refine hK _ _ ?_; clear hK K) | (refine q_write_y rfl ?hy (fun K hK => ?_); (case hy => rfl); go_simp; intro nw; refine ((sless2_any y x _).yes HN.out).mono ?_; rintro e w4 ⟨rfl, hb4⟩; obtain ⟨w4, rfl⟩ : ∃ w5, w4 = World.drewN w5 0 := ⟨w4, rfl⟩; have HB4 : Hid (w.grownBy w4 (some M)) := Lib.hid (grown_trans (grown_drewN HB3.out _) (grown_below M hb4)); have HM4 : Hid (w4.heap[M]? = w3.heap[M]?) := Lib.hid (hb4.block M (by show M < w3.heap.size; omega)); clear hb4; refine ⟨_, rfl, _, ⟨_, rfl⟩, hK _ _ ?_⟩; clear hK K)
              first | (refine q_pure_x rfl ?hy (fun K hK => ?_); (case hy => rfl); go_simp; refine hK _ _ ?_; clear hK K) | (refine q_pure_u rfl ?hy (fun K hK => ?_); (case hy => rfl); go_simp; refine hK _ _ ?_; clear hK K) | (refine q_pure_y rfl ?hy (fun K hK => ?_); (case hy => rfl); go_simp; refine hK _ _ ?_; clear hK K)
              first | (refine q_pure_x rfl ?hy (fun K hK => ?_); (case hy => rfl); go_simp; refine hK _ _ ?_; clear hK K) | (refine q_pure_u rfl ?hy (fun K hK => ?_); (case hy => rfl); go_simp; refine hK _ _ ?_; clear hK K) | (refine q_pure_y rfl ?hy (fun K hK => ?_); (case hy => rfl); go_simp; refine hK _ _ ?_; clear hK K)
              (refine q_pure_n rfl (fun K hK => ?_); go_simp; refine hK _ _ ?_; clear hK K)
              refine q_nil ?_
              intro nq
              go_wp2_with fail
              go_roundw
              case rel => exact ⟨k + 1, by omega, by go_num, Lib.hid (uptoz_succ HU.out hkl HX.out HMX.out (fun _ => by rw [← HX.out, ← HY.out]; exact HN.out)), Lib.hid (grown_drewN HB4.out _), Lib.hid (seen_next hkl HX.out (MapAt.same (HS3.out HMX.out.1) HM4.out))⟩
              case measure => simp [intOf]; omega
          · have hk0' : ¬ (0 : Int) < (k : Int) := by omega
            refine wp_region_q [0,1,2,0,0,0,0,0,0,0,0,0,0,1,1,2,0,0,0] (by kernel_rfl) (by kernel_rfl) ?_
            (refine q_pure_n rfl (fun K hK => ?_); go_simp; refine hK _ _ ?_; clear hK K)
            (refine q_read_n rfl (fun K hK => ?_); go_simp; refine hK _ _ ?_; clear hK K)
            (refine q_write_n rfl (fun K hK => ?_); go_simp; intro nw; refine (asks_yes (R := fun w' => (x.1 ∉ (l.take k).map (·.1) → SeenAt w' M ((l.take k).map (·.1) ++ [x.1])) ∧ _) (HMAY.out _) HMX.out).mono ?_; rintro e w3 ⟨rfl, hs3, hg3⟩; obtain ⟨hbb, hbo⟩ := box_grown (Nat.lt_of_lt_of_le hMl hsz) hg3; clear hg3; obtain ⟨w3, rfl⟩ : ∃ w5, w3 = World.drewN w5 0 := ⟨w3, rfl⟩; have HB3 : Hid (w.grownBy w3 (some M)) := Lib.hid (grown_trans HB.out hbb); have HS3 : Hid (x.1 ∉ (l.take k).map (·.1) → SeenAt w3 M ((l.take k).map (·.1) ++ [x.1])) := Lib.hid hs3; clear hs3; have hsz3 := HB3.out.size; have hbo : w3.heap[wr.heap.size]? = _ := hbo; have hx3 : w3.cell? ⟨wr.heap.size, 0, none⟩ = some (.string x.1) := (by rw [Lib.cell_of_heap hbo]; rfl); have hx4 : w3.cell? ⟨wr.heap.size, 1, none⟩ = some (.float .f64 x.2) := (by rw [Lib.cell_of_heap hbo]; rfl); clear hbb hbo; refine ⟨_, rfl, _, ⟨_, rfl⟩, hK _ _ ?_⟩; clear hK K)
            (refine q_pure_n rfl (fun K hK => ?_); go_simp; refine hK _ _ ?_; clear hK K)
            (refine q_pure_n rfl (fun K hK => ?_); go_simp; refine hK _ _ ?_; clear hK K)
            first | (refine q_pure_x rfl ?hy (fun K hK => ?_); (case hy => rfl); go_simp; refine hK _ _ ?_; clear hK K) | (refine q_pure_u rfl ?hy (fun K hK => ?_); (case hy => rfl); go_simp; refine hK _ _ ?_; clear hK K) | (refine q_pure_y rfl ?hy (fun K hK => ?_); (case hy => rfl); go_simp; refine hK _ _ ?_; clear hK K)
            first | (refine q_pure_x rfl ?hy (fun K hK => ?_); (case hy => rfl); go_simp; refine hK _ _ ?_; clear hK K) | (refine q_pure_u rfl ?hy (fun K hK => ?_); (case hy => rfl); go_simp; refine hK _ _ ?_; clear hK K) | (refine q_pure_y rfl ?hy (fun K hK => ?_); (case hy => rfl); go_simp; refine hK _ _ ?_; clear hK K)
            first | (refine q_pure_x rfl ?hy (fun K hK => ?_); (case hy => rfl); go_simp; refine hK _ _ ?_; clear hK K) | (refine q_pure_u rfl ?hy (fun K hK => ?_); (case hy => rfl); go_simp; refine hK _ _ ?_; clear hK K) | (refine q_pure_y rfl ?hy (fun K hK => ?_); (case hy => rfl); go_simp; refine hK _ _ ?_; clear hK K)
            first | (refine q_pure_x rfl ?hy (fun K hK => ?_); (case hy => rfl); go_simp; refine hK _ _ ?_; clear hK K) | (refine q_pure_u rfl ?hy (fun K hK => ?_); (case hy => rfl); go_simp; refine hK _ _ ?_; clear hK K) | (refine q_pure_y rfl ?hy (fun K hK => ?_); (case hy => rfl); go_simp; refine hK _ _ ?_; clear hK K)
            first | (refine q_pure_x rfl ?hy (fun K hK => ?_); (case hy => rfl); go_simp; refine hK _ _ ?_; clear hK K) | (refine q_pure_u rfl ?hy (fun K hK => ?_); (case hy => rfl); go_simp; refine hK _ _ ?_; clear hK K) | (refine q_pure_y rfl ?hy (fun K hK => ?_); (case hy => rfl); go_simp; refine hK _ _ ?_; clear hK K)
            first | (refine q_pure_x rfl ?hy (fun K hK => ?_); (case hy => rfl); go_simp; refine hK _ _ ?_; clear hK K) | (refine q_pure_u rfl ?hy (fun K hK => ?_); (case hy => rfl); go_simp; refine hK _ _ ?_; clear hK K) | (refine q_pure_y rfl ?hy (fun K hK => ?_); (case hy => rfl); go_simp; refine hK _ _ ?_; clear hK K)
            first | (refine q_pure_x rfl ?hy (fun K hK => ?_); (case hy => rfl); go_simp; refine hK _ _ ?_; clear hK K) | (refine q_pure_u rfl ?hy (fun K hK => ?_); (case hy => rfl); go_simp; refine hK _ _ ?_; clear hK K) | (refine q_pure_y rfl ?hy (fun K hK => ?_); (case hy => rfl); go_simp; refine hK _ _ ?_; clear hK K)
            first | (refine q_pure_x rfl ?hy (fun K hK => ?_); (case hy => rfl); go_simp; refine hK _ _ ?_; clear hK K) | (refine q_pure_u rfl ?hy (fun K hK => ?_); (case hy => rfl); go_simp; refine hK _ _ ?_; clear hK K) | (refine q_pure_y rfl ?hy (fun K hK => ?_); (case hy => rfl); go_simp; refine hK _ _ ?_; clear hK K)
            first | (refine q_read_x rfl ?hy (fun K hK => ?_); (case hy => rfl); go_simp; refine hK _ _ ?_; clear hK K) | (refine q_read_u rfl ?hy (fun K hK => ?_); (case hy => rfl); go_simp; refine hK _ _ ?_; clear hK K) | (refine q_read_y rfl ?hy (fun K hK => ?_); (case hy => rfl); go_simp; refine hK _ _ ?_; clear hK K)
            first | (refine q_read_x rfl ?hy (fun K hK => ?_); (case hy => rfl); go_simp; refine hK _ _ ?_; clear hK K) | (refine q_read_u rfl ?hy (fun K hK => ?_); (case hy => rfl); go_simp; refine hK _ _ ?_; clear hK K) | (refine q_read_y rfl ?hy (fun K hK => ?_); (case hy => rfl); go_simp; refine hK _ _ ?_; clear hK K)
            first | (refine q_write_x rfl ?hy (fun K hK => ?_); (case hy => rfl); go_simp; refine hK _ _ ?_; clear hK K) | (refine q_write_u rfl ?hy (fun K hK => ?_); (case hy => rfl); go_simp; refine hK _ _ ?_; clear hK K) | (refine q_write_y rfl ?hy (fun K hK => ?_); (case hy => rfl); go_simp; intro nw; fail; refine ⟨_, rfl, _, ⟨_, rfl⟩, hK _ _ ?_⟩; clear hK K)
            first | (refine q_pure_x rfl ?hy (fun K hK => ?_); (case hy => rfl); go_simp; refine hK _ _ ?_; clear hK K) | (refine q_pure_u rfl ?hy (fun K hK => ?_); (case hy => rfl); go_simp; refine hK _ _ ?_; clear hK K) | (refine q_pure_y rfl ?hy (fun K hK => ?_); (case hy => rfl); go_simp; refine hK _ _ ?_; clear hK K)
            first | (refine q_pure_x rfl ?hy (fun K hK => ?_); (case hy => rfl); go_simp; refine hK _ _ ?_; clear hK K) | (refine q_pure_u rfl ?hy (fun K hK => ?_); (case hy => rfl); go_simp; refine hK _ _ ?_; clear hK K) | (refine q_pure_y rfl ?hy (fun K hK => ?_); (case hy => rfl); go_simp; refine hK _ _ ?_; clear hK K)
            (refine q_pure_n rfl (fun K hK => ?_); go_simp; refine hK _ _ ?_; clear hK K)
            refine q_nil ?_
            intro nq
            go_wp2_with fail
            go_roundw
            case rel => exact ⟨k + 1, by omega, by go_num, Lib.hid (uptoz_succ HU.out hkl HX.out HMX.out (fun h => absurd h hk0)), Lib.hid (grown_drewN HB3.out _), Lib.hid (seen_next hkl HX.out (MapAt.same (HS3.out HMX.out.1) rfl))⟩
            case measure => simp [intOf]; omega
      · have hlt' : ¬ (k : Int) < (L : Int) := by omega
        have hkL : k = l.length := by have := HL.out; omega
        have HK := Lib.hid hkL
        clear hkL
        go_wp2_with fail
        go_ret
        have hu := HU.out
        rw [HK.out] at hu
        exact ⟨ret_yes (zs_of_upto (by have := HL.out; omega) hu), HB.out⟩
end Go.Proofs.Ytpnmhldaaaemeaa.Snp
