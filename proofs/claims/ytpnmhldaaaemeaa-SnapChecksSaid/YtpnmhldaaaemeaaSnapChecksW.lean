/- The walk of SnapChecks: it answers true. -/
import Derived.Test.YtpnmhldaaaemeaaRefC24
import Derived.Test.YtpnmhldaaaemeaaSizeI24
import Derived.Test.YtpnmhldaaaemeaaBeyG
import Derived.Test.YtpnmhldaaaemeaaGrow
namespace Go.Proofs.Ytpnmhldaaaemeaa.Snp
open Go.RowKit Go.Proofs.Ytpnmhldaaaemeaa.Pin

theorem one_item {W : World} {it : It} {c : Cl} (hv : ValAt W W.heap.size c it.val) (n b : Nat) (hb : b = W.heap.size) :
    ItemsAt ((W.alloc (iO it c)).drewN n) ((W.alloc (iO it c)).drewN n).heap.size (.slice (some ⟨b, 0, none⟩) 1 1) [it] := by
  subst hb
  have hz : ((W.alloc (iO it c)).drewN n).heap.size = W.heap.size + 1 := by show (W.alloc _).heap.size = _; simp
  refine ⟨_, 1, rfl, fun _ => ⟨W.heap.size, 0, rfl, by omega, fun j hj => ⟨c, ?_, ?_⟩⟩⟩
  · obtain rfl : j = 0 := by simpa using hj
    intro i u hi
    have hb : ((W.alloc (iO it c)).drewN n).heap[W.heap.size]? = some (iO it c) := heap_alloc_new W (iO it c)
    rw [Lib.cell_of_heap hb]
    simpa [icells] using hi
  · obtain rfl : j = 0 := by simpa using hj
    exact (hv.below (below_drewN ((Below.refl _ W).alloc (Nat.le_refl _) _) n)).more (by omega)
theorem box_item {w W : World} {it : It} {c : Cl} {b : Nat} (hv : ValAt w w.heap.size c it.val) (hW : Below w.heap.size w W) (hb : W.heap[b]? = some (iO it c)) :
    ItemsAt W W.heap.size (.slice (some ⟨b, 0, none⟩) 1 1) [it] := by
  refine ⟨_, 1, rfl, fun _ => ⟨b, 0, rfl, (Array.getElem?_eq_some_iff.1 hb).1, fun j hj => ⟨c, ?_, ?_⟩⟩⟩
  · obtain rfl : j = 0 := by simpa using hj
    intro i u hi
    rw [Lib.cell_of_heap hb]
    simpa [icells] using hi
  · obtain rfl : j = 0 := by simpa using hj
    exact (hv.below hW).more hW.size
theorem item_cells {W : World} {b : Nat} {it : It} {c : Cl} (h : W.heap[b]? = some (iO it c)) :
    W.cell? ⟨b, 0, none⟩ = some (.int .i64 it.db) ∧ W.cell? ⟨b, 1, none⟩ = some (.string it.key) ∧ W.cell? ⟨b, 2, none⟩ = some (.int .u8 (it.val.kind : Int)) ∧ W.cell? ⟨b, 3, none⟩ = some (.string it.val.text) ∧ W.cell? ⟨b, 4, none⟩ = some (c.lv) ∧ W.cell? ⟨b, 5, none⟩ = some (c.hv) ∧ W.cell? ⟨b, 6, none⟩ = some (c.sv) ∧ W.cell? ⟨b, 7, none⟩ = some (c.zv) ∧ W.cell? ⟨b, 8, none⟩ = some (c.ev) ∧ W.cell? ⟨b, 9, none⟩ = some (.int .u64 (it.val.ms : Int)) ∧ W.cell? ⟨b, 10, none⟩ = some (.int .u64 (it.val.seq : Int)) ∧ W.cell? ⟨b, 11, none⟩ = some (.int .i64 it.dead) := by
  refine ⟨?_, ?_, ?_, ?_, ?_, ?_, ?_, ?_, ?_, ?_, ?_, ?_⟩ <;> (rw [Lib.cell_of_heap h]; rfl)
set_option maxHeartbeats 4000000 in
set_option maxRecDepth 100000 in
theorem checks_walk (it : It) (c : Cl) (w : World) (hv : ValAt w w.heap.size c it.val) (hB : VaB it.val) (hI : ItT it) :
    Calls Try.prog 3 #[iV it c] w fun e w' => e = .returned (.bool true) ∧ Below w.heap.size w w' := by
  have HV := Lib.hid hv
  have HVB := Lib.hid hB
  have HIT := Lib.hid hI
  clear hv hB hI
  go_enter Try.func3, Try.ntmps3
  go_wp2_with fail
  have hb0 : Below w.heap.size w ((w.alloc (iO it c)).alloc (iO it c)) := ((Below.refl _ w).alloc (Nat.le_refl _) _).alloc (by simp) _
  have HB0 := Lib.hid hb0
  clear hb0
  refine (sz_items [it] _ _ (one_item ((HV.out.below ((Below.refl _ w).alloc (Nat.le_refl _) _)).more (by simp)) 0 (w.heap.size + 1) (by simp)) (by simp) (by intro x hx; obtain rfl := List.mem_singleton.1 hx; exact HVB.out) (by intro x hx; obtain rfl := List.mem_singleton.1 hx; exact HIT.out)).mono ?_
  rintro e w1 ⟨n, rfl, hn, -, hb1⟩
  have hbo : w1.heap[w.heap.size]? = some (iO it c) := (hb1.block _ (by simp; omega)).trans ((Lib.alloc_old _ _ _ (by simp)).trans (heap_alloc_new w _))
  have HB1 : Hid (Below w.heap.size w w1) := Lib.hid (HB0.out.trans (hb1.mono (by simp; omega)))
  have HBO := Lib.hid hbo
  clear hb1 hbo
  go_wp2_with fail
  have hcl : ∀ j (h : j < [(n : Int)].length), (w1.alloc (.cells #[.int .i64 (n : Int)] 3)).cell? ⟨w1.heap.size, j, none⟩ = some (.int .i64 [(n : Int)][j]) := by
    intro j hj
    have : j = 0 := by simpa using hj
    subst this
    simp
  refine (Bey.beyond_any [(n : Int)] 1 w1.heap.size _ (by simp) (by intro x hx; obtain rfl := List.mem_singleton.1 hx; omega) hcl).mono ?_
  rintro e w2 ⟨rfl, rfl⟩
  cases hq : Bey.beyond 0 [(n : Int)] with
  | true =>
    go_wp2_with fail
    go_ret
    exact ⟨rfl, HB1.out.alloc HB1.out.size _⟩
  | false =>
    have HB2 : Hid (Below w.heap.size w (w1.alloc (.cells #[.int .i64 (n : Int)] 3))) := Lib.hid (HB1.out.alloc HB1.out.size _)
    have HBO2 : Hid ((w1.alloc (.cells #[.int .i64 (n : Int)] 3)).heap[w.heap.size]? = some (iO it c)) := Lib.hid ((Lib.alloc_old _ _ _ (Array.getElem?_eq_some_iff.1 HBO.out).1).trans HBO.out)
    obtain ⟨W2, hW2⟩ : ∃ W2, W2 = w1.alloc (.cells #[.int .i64 (n : Int)] 3) := ⟨_, rfl⟩
    rw [← hW2] at HB2 HBO2 ⊢
    clear hW2 HB1 HBO hcl hq
    have HCK : Hid (∀ W b, Below w.heap.size w W → W.heap[b]? = some (iO it c) → Calls Try.prog 10 #[.slice (some ⟨b, 0, none⟩) 1 1] W fun e w' => e = .returned (.int .i64 (eno (CheckP [it]))) ∧ Below W.heap.size W w') := Lib.hid (fun W b hW hb => check_any [it] _ _ (box_item HV.out hW hb) (by simp) (by intro x hx; obtain rfl := List.mem_singleton.1 hx; exact HVB.out))
    have HRK : Hid (∀ W b, Below w.heap.size w W → W.heap[b]? = some (iO it c) → Calls Try.prog 11 #[.slice (some ⟨b, 0, none⟩) 1 1] W fun e w' => e = .returned (.int .i64 (eno (CheckP [it]))) ∧ Below W.heap.size W w') := Lib.hid (fun W b hW hb => ref_check [it] _ _ (box_item HV.out hW hb) (by simp) (by intro x hx; obtain rfl := List.mem_singleton.1 hx; exact HVB.out))
    obtain ⟨en, hen⟩ : ∃ en, en = eno (CheckP [it]) := ⟨_, rfl⟩
    rw [← hen] at HCK HRK
    clear hen
    go_wp2_with fail
    refine Grow.wp_region_grow [fun v _ => v = iV it c, fun v W => ∃ b, v = .slice (some ⟨b, 0, none⟩) 1 1 ∧ W.heap[b]? = some (iO it c), fun v _ => v = .int .i64 en, fun v _ => v = iV it c, fun v W => ∃ b, v = .slice (some ⟨b, 0, none⟩) 1 1 ∧ W.heap[b]? = some (iO it c), fun v _ => v = .int .i64 en, fun v _ => v = .bool true, fun v _ => v = .bool true]
      [[], [0], [1], [], [3], [4], [2, 5], [6]] (by kernel_rfl) (by kernel_rfl) ?_ ?_ ?_
    · intro V hV
      have hst1 : ∀ x : Value, Grow.Stable (fun v _ => v = x) := fun x v w w' h _ => h
      have hst2 : Grow.Stable (fun v W => ∃ b, v = .slice (some ⟨b, 0, none⟩) 1 1 ∧ W.heap[b]? = some (iO it c)) := fun v w w' ⟨b, h1, h2⟩ hg => ⟨b, h1, hg.block h2⟩
      simp only [List.mem_cons, List.not_mem_nil, or_false] at hV
      rcases hV with rfl | rfl | rfl | rfl | rfl | rfl | rfl | rfl
      all_goals first | exact hst1 _ | exact hst2
    · refine .cons (fun u w' hR hF => Grow.gop_n rfl ?_) ?_
      · obtain ⟨e0, e1, e2, e3, e4, e5, e6, e7, e8, e9, e10, e11⟩ := item_cells (hR.block HBO2.out)
        go_simp
        exact Grow.Grows.refl _
      refine .cons (fun u w' hR hF => Grow.gop_n rfl ?_) ?_
      · have f0 : u 0 = iV it c := hF.1
        go_simp
        exact ⟨Grow.Grows.alloc _ _, Option.some.inj ((Array.getElem?_eq_getElem _).symm.trans (heap_alloc_new w' (iO it c)))⟩
      refine .cons (fun u w' hR hF => Grow.gop_n rfl ?_) ?_
      · obtain ⟨b, f0, f1⟩ := hF.1
        have F1 := Lib.hid f1
        clear f1
        go_simp
        exact (HCK.out _ _ (HB2.out.trans (hR.mono HB2.out.size)) F1.out).mono fun e w'' ⟨h1, h2⟩ => ⟨h1, h2⟩
      refine .cons (fun u w' hR hF => Grow.gop_n rfl ?_) ?_
      · obtain ⟨e0, e1, e2, e3, e4, e5, e6, e7, e8, e9, e10, e11⟩ := item_cells (hR.block HBO2.out)
        go_simp
        exact Grow.Grows.refl _
      refine .cons (fun u w' hR hF => Grow.gop_n rfl ?_) ?_
      · have f0 : u 3 = iV it c := hF.1
        go_simp
        exact ⟨Grow.Grows.alloc _ _, Option.some.inj ((Array.getElem?_eq_getElem _).symm.trans (heap_alloc_new w' (iO it c)))⟩
      refine .cons (fun u w' hR hF => Grow.gop_n rfl ?_) ?_
      · obtain ⟨b, f0, f1⟩ := hF.1
        have F1 := Lib.hid f1
        clear f1
        go_simp
        exact (HRK.out _ _ (HB2.out.trans (hR.mono HB2.out.size)) F1.out).mono fun e w'' ⟨h1, h2⟩ => ⟨h1, h2⟩
      refine .cons (fun u w' hR hF => Grow.gop_n rfl ?_) ?_
      · have f0 : u 2 = .int .i64 en := hF.1
        have f1 : u 5 = .int .i64 en := hF.2.1
        go_simp
        exact Grow.Grows.refl _
      refine .cons (fun u w' hR hF => Grow.gop_n rfl ?_) .nil
      have f0 : u 6 = .bool true := hF.1
      go_simp
      exact Grow.Grows.refl _
    · intro w' hR
      have HB3 : Hid (Below w.heap.size w w') := Lib.hid (HB2.out.trans (hR.mono HB2.out.size))
      clear hR
      refine .cons (fun x0 f0 => ?_)
      refine .cons (fun x1 f1 => ?_)
      refine .cons (fun x2 f2 => ?_)
      refine .cons (fun x3 f3 => ?_)
      refine .cons (fun x4 f4 => ?_)
      refine .cons (fun x5 f5 => ?_)
      refine .cons (fun x6 f6 => ?_)
      refine .cons (fun x7 f7 => ?_)
      refine .nil ?_
      subst f7
      go_simp
      go_wp2_with fail
      go_ret
      exact ⟨rfl, HB3.out⟩
end Go.Proofs.Ytpnmhldaaaemeaa.Snp
