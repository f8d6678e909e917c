import Derived.Test.YtpnmhldaaaemeaaGreatMa1
/- The region's law of GrowB, where the last operation stands on all the others and what holds of it is not disturbed any more. -/
namespace Go.Proofs.YtpnmhldaaaemeaaGreat.Grow
open Go Go.Proofs.YtpnmhldaaaemeaaGreat.Pin
section
variable {P : Program} {R : World → World → Prop} {ops : Array Oper}
theorem grow_last (hsel : Region.noSelect ops = true) (hd : Dsts ops) (hrt : ∀ a b c, R a b → R b c → R a c) (hrr : ∀ a, R a a) {V : Nat → Value → World → Prop} (hst : ∀ i, i + 1 < ops.size → ∀ v w w', V i v w → R w w' → V i v w')
    {D : List (List Nat)} (hL : ∀ k, k + 1 < ops.size → k ∈ D.getD (ops.size - 1) []) (hD : ∀ i < ops.size, growAt ops i (D.getD i []) = true) {a0 : Act} {W : World}
    (hop : ∀ i o, ops[i]? = some o → ∀ u w, R W w → (∀ k ∈ D.getD i [], V k (u k) w) → gOp P R ops o (actL ops u (D.getD i []) a0) (V i) w)
    {Q : Exit → Act → World → Prop} (hQ : ∀ u w, R W w → (∀ k < ops.size, V k (u k) w) → Q .normal (actL ops u (List.range ops.size) a0) w) :
    ∀ (fuel : Nat) (u : Nat → Value) (ks : List Nat) (listed : Array Bool) (a : Act) (w : World), ks.length + fuel = ops.size → (ops.size - 1 ∈ ks → fuel = 0) → Closed ops listed → Done R ops V a0 W u ks listed a w → wpAny P .any ops Q fuel listed a w := by
  have fin : ∀ (u : Nat → Value) (ks : List Nat) (listed : Array Bool) (a : Act) (w : World), Done R ops V a0 W u ks listed a w → ks.length = ops.size → Q .normal a w := by
    intro u ks listed a w hdn hl
    have hp : ks.Perm (List.range ops.size) := nodup_full hdn.nodup (fun k hk => by have := listed_lt ((hdn.mem k).1 hk); rw [hdn.size] at this; exact this) hl
    rw [hdn.act, actL_perm hd u hp]
    exact hQ u w hdn.rel fun k hk => hdn.fact k (hp.mem_iff.2 (List.mem_range.2 hk))
  have ops_done : ∀ (ks : List Nat) (listed : Array Bool), (∀ k, k ∈ ks ↔ listed.getD k false = true) → listed.size = ops.size → ks.Nodup → ks.length = ops.size → Region.ready .any ops listed = [] := by
    intro ks listed hm hsz hnd hl
    have hp : ks.Perm (List.range ops.size) := nodup_full hnd (fun k hk => by have := listed_lt ((hm k).1 hk); rw [hsz] at this; exact this) hl
    refine List.eq_nil_iff_forall_not_mem.2 fun i hi => ?_
    obtain ⟨h0, o, ho, _⟩ := mem_ready.1 hi
    have hlt : i < ops.size := (Array.getElem?_eq_some_iff.1 ho).1
    have := (hm i).1 (hp.mem_iff.2 (List.mem_range.2 hlt))
    exact getD_both h0 this
  intro fuel
  induction fuel with
  | zero =>
    intro u ks listed a w hl hno hc hdn
    exact ⟨ops_done ks listed hdn.mem hdn.size hdn.nodup (by omega), fin u ks listed a w hdn (by omega)⟩
  | succ fuel ih =>
    intro u ks listed a w hl hno hc hdn
    refine ⟨fun h0 => ?_, fun i hi => ?_⟩
    · -- nothing may come up, so all is done
      exfalso
      -- the least operation that is not listed is ready
      have : ∃ k, k < ops.size ∧ k ∉ ks := by
        apply Classical.byContradiction
        intro hno
        have hall : ∀ k ∈ List.range ops.size, k ∈ ks := fun k hk => Classical.byContradiction fun h => hno ⟨k, List.mem_range.1 hk, h⟩
        have := nodup_le _ _ List.nodup_range hall
        simp at this
        omega
      obtain ⟨k, hk, hkn⟩ := this
      refine hkn ((hdn.mem k).2 (grow_stuck (fun i o ho e he hb => ?_) h0 hdn.size (k + 1) k (by omega) hk))
      have hlt : i < ops.size := (Array.getElem?_eq_some_iff.1 ho).1
      have hg := hD i hlt
      unfold growAt at hg
      simp only [ho, Bool.and_eq_true] at hg
      have h3 := Array.all_eq_true_iff_forall_mem.1 hg.1.2 e he
      rw [hb] at h3
      simpa using h3
    · obtain ⟨h0, o, ho, hall⟩ := mem_ready.1 hi
      have hlt : i < ops.size := (Array.getElem?_eq_some_iff.1 ho).1
      have hg := hD i hlt
      unfold growAt at hg
      simp only [ho, Bool.and_eq_true, decide_eq_true_eq, List.all_eq_true, List.mem_range, Bool.or_eq_true, List.contains_iff_mem] at hg
      obtain ⟨⟨⟨hnd, hbeh⟩, -⟩, hfar⟩ := hg
      have hin : i ∉ ks := fun h => getD_both h0 ((hdn.mem i).1 h)
      have hDks : ∀ k ∈ D.getD i [], k ∈ ks := fun k hk => by
        have haft : Aft ops k i := aftL_spec k _ i (hbeh k hk).2
        refine (hdn.mem k).2 ?_
        cases hx : listed.getD k false with
        | true => rfl
        | false =>
          exfalso
          have hk' : listed.getD k true = false := by
            have hlt' : k < listed.size := by
              rw [hdn.size]
              exact (hbeh k hk).1
            simp [hlt'] at hx ⊢
            exact hx
          exact Aft.not_ready hc hk' hi haft
      -- the frame as the operation sees it
      have hperm : ks.Perm (D.getD i [] ++ ks.filter (fun k => !(D.getD i []).contains k)) := by
        have h1 : ks.Perm (ks.filter (fun k => (D.getD i []).contains k) ++ ks.filter (fun k => !(D.getD i []).contains k)) := (List.filter_append_perm _ ks).symm
        refine h1.trans (List.Perm.append_right _ ?_)
        refine (List.perm_ext_iff_of_nodup (hdn.nodup.filter _) hnd).2 fun k => ?_
        simp only [List.mem_filter, List.contains_iff_mem]
        exact ⟨fun h => h.2, fun h => ⟨hDks k h, h⟩⟩
      have hact : a = actL ops u (ks.filter (fun k => !(D.getD i []).contains k)) (actL ops u (D.getD i []) a0) := by
        rw [hdn.act, actL_perm hd u hperm, actL_append]
      have hsame := rest_same (ops := ops) o (fun cs b => Region.noSelect_spec hsel i o cs b ho) u (ks.filter (fun k => !(D.getD i []).contains k)) (actL ops u (D.getD i []) a0) (fun k hk d hkd => by
        have hk' := (List.mem_filter.1 hk).2
        rcases hfar k (dstOf_lt hkd) with h | h
        · exfalso; rw [List.contains_iff_mem.2 h] at hk'; cases hk'
        · rw [hkd] at h; simpa using h)
      rw [← hact] at hsame
      have hfacts : ∀ k ∈ D.getD i [], V k (u k) w := fun k hk => hdn.fact k (hDks k hk)
      have hthis := hop i o ho u w hdn.rel hfacts
      unfold gOp at hthis
      rw [← hsame.1, ← hsame.2] at hthis
      have next : ∀ v w', R w w' → V i v w' → wpAny P .any ops Q fuel (listed.setIfInBounds i true) (a.put o.dst v) w' := fun v w' hr hv => by
        have hdst : dstOf ops i = o.dst := by unfold dstOf; rw [ho]; rfl
        refine ih (fun k => if k = i then v else u k) (ks ++ [i]) _ _ w' (by simp; omega) (fun hm => ?_) (hc.set hi) ⟨?_, by simp [hdn.size], fun k => ?_, ?_, hrt _ _ _ hdn.rel hr, fun k hk => ?_⟩
        · rcases List.mem_append.1 hm with hm | hm
          · have := hno hm; omega
          · have hm : ops.size - 1 = i := by simpa using hm
            have h5 := nodup_le (List.range (ops.size - 1)) ks List.nodup_range (fun k hk => hDks k (by rw [← hm]; exact hL k (by have := List.mem_range.1 hk; omega)))
            simp at h5
            omega
        · refine List.nodup_append.2 ⟨hdn.nodup, by simp, fun x hx y hy => ?_⟩
          obtain rfl : y = i := by simpa using hy
          intro hxy
          subst hxy
          exact hin hx
        · by_cases hki : k = i
          · subst hki
            simp [hdn.size, hlt]
          · rw [getD_set_ne false (Ne.symm hki)]
            simp only [List.mem_append, List.mem_singleton, hki, or_false]
            exact hdn.mem k
        · rw [actL_append, actL_congr ks a0 (u' := u) (fun k hk => by
            have : k ≠ i := fun h => hin (h ▸ hk)
            simp [this]), ← hdn.act]
          simp [actL, hdst]
        · rcases List.mem_append.1 hk with hk | hk
          · have : k ≠ i := fun h => hin (h ▸ hk)
            simp only [this, if_false]
            exact hst k (by
              have hlk : k < ops.size := by have := listed_lt ((hdn.mem k).1 hk); rw [hdn.size] at this; exact this
              rcases Nat.lt_or_ge (k + 1) ops.size with h | h
              · exact h
              · have hkk : ops.size - 1 = k := by omega
                have := hno (by rw [hkk]; exact hk)
                omega) _ _ _ (hdn.fact k hk) hr
          · obtain rfl : k = i := by simpa using hk
            simpa using hv
      unfold wpOp
      simp only [ho]
      split
      · rename_i hw
        simp only [hw, if_true] at hthis
        exact .inl (gAt_wp hthis next)
      · rename_i hw
        simp only [hw] at hthis
        exact next undef w (hrr w) (by simpa using hthis)
end
section
variable {P : Program} {b : Nat}
theorem wp_region_last {id b : Nat} {Q : Exit → Act → World → Prop} {a : Act} {w : World} {l : List Oper} (Vs : List (Value → World → Prop)) (D : List (List Nat)) (hm : P.follows .mixedOrders = true) (hB : growB l.toArray D = true) (hL : ((List.range (l.length - 1)).all fun k => (D.getD (l.length - 1) []).contains k) = true)
    (hst : ∀ V ∈ Vs.take (l.length - 1), StableB b V) (h : gGoals P (But b) l.toArray a w Vs l D Vs) (hQ : ∀ w', But b w w' → gEnd (Q .normal) l Vs a w') : (Code.region id l.toArray true).wp P Q a w := by
  simp only [growB, Bool.and_eq_true, List.all_eq_true, List.mem_range] at hB
  obtain ⟨⟨hs, hd⟩, hg⟩ := hB
  refine wp_region_any hm ?_
  refine grow_last (R := But b) (V := fun i => Vs.getD i (fun _ _ => False)) (D := D) (a0 := a) (W := w) hs (apartB_spec hd) (fun _ _ _ => But.trans) But.refl (fun i hi1 v w w' hv hg => ?_) (fun k hk => ?_) (fun i hi => hg i hi) ?_ (Q := Q) (fun u w' hr hf => ?_) _ (fun _ => undef) [] _ a w.drew (by simp) (fun h => by cases h) (fun j oj _ hl => by simp [Array.getD] at hl) ⟨by simp, by simp, fun k => by simp [Array.getD], rfl, But.drew w, fun k hk => by cases hk⟩
  · by_cases hi : i < Vs.length
    · have e : Vs.getD i (fun _ _ => False) = Vs[i] := by simp [hi]
      rw [e] at hv ⊢
      exact hst _ (List.mem_take_iff_getElem.2 ⟨i, by simp at hi1; omega, rfl⟩) _ _ _ hv hg
    · have e : Vs.getD i (fun _ _ => False) = fun _ _ => False := by simp [Nat.le_of_not_lt hi]
      rw [e] at hv
      exact hv.elim
  · simp only [List.all_eq_true, List.mem_range, List.contains_iff_mem] at hL
    exact hL k (by simp at hk; omega)
  · intro i o ho u w' hr hf
    exact h.at i o (by simpa using ho) u w' hr (gFacts_of hf)
  · have := gEnd.out (ops := l.toArray) (u := u) l Vs a 0 (by simp) (fun j hj => by simpa using hf j (by simpa using hj)) (hQ w' hr)
    rw [← List.range_eq_range'] at this
    simpa using this
theorem gop_store_row {R : World → World → Prop} {ops : Array Oper} {o : Oper} {a : Act} {V : Value → World → Prop} {w : World} (hgd : o.guard = none) (ty : TypeId) (x y : Operand) (ho : o.op = .store ty x y) (g : Nat) (cells : Array Value) (hx : a.eval x = .pointer (some ⟨g, 0, none⟩)) (hy : a.eval y = .agg cells)
    (t : TypeId) (cur : Array Value) (hg : w.heap[g]? = some (.cells cur t (0, 0))) (hi : (P.info? ty).map (·.size) = some cells.size) (hsz : cur.size = cells.size) (h1 : cells.all (·.oneCell') = true)
    (h : R w (w.setRow g cells) ∧ V undef (w.setRow g cells)) : gOp P R ops o a V w :=
  gop_n hgd (gat_store_row ty x y ho g cells hx hy t cur hg hi hsz h1 h)
theorem gop_store_all {R : World → World → Prop} {ops : Array Oper} {o : Oper} {a : Act} {V : Value → World → Prop} {w : World} (hgd : o.guard = none) (ty : TypeId) (x y : Operand) (ho : o.op = .store ty x y) (g : Nat) (t : TypeId) (n : Nat) (hx : a.eval x = .pointer (some ⟨g, 0, none⟩)) (z : Value) (hy : a.eval y = z)
    (hi : (P.info? ty).map (·.size) = some n) (hg : ∃ cur, w.heap[g]? = some (.cells cur t (0, 0)) ∧ cur.size = n)
    (hz : ∃ cells, z = .agg cells ∧ cells.size = n ∧ cells.all (·.oneCell') = true ∧ ∀ cur, w.heap[g]? = some (.cells cur t (0, 0)) → cur.size = n → R w (w.setRow g cells) ∧ V undef (w.setRow g cells)) : gOp P R ops o a V w := by
  obtain ⟨cur, h1, h2⟩ := hg
  obtain ⟨cells, rfl, h3, h4, h5⟩ := hz
  exact gop_store_row hgd ty x y ho g cells hx hy t cur h1 (by rw [h3]; exact hi) (by rw [h2, h3]) h4 (h5 cur h1 h2)
theorem gGoals.store {R : World → World → Prop} {ops : Array Oper} {o : Oper} {a : Act} {W : World} {Vs : List (Value → World → Prop)} {d : List Nat} {V : Value → World → Prop} (hgd : o.guard = none) (ty : TypeId) (x y : Operand) (ho : o.op = .store ty x y) (g : Nat) (t : TypeId) (n k : Nat)
    (hx : ∀ u, (actL ops u d a).eval x = .pointer (some ⟨g, 0, none⟩)) (hy : ∀ u, (actL ops u d a).eval y = u k) (hi : (P.info? ty).map (·.size) = some n) (hg : ∀ w, R W w → ∃ cur, w.heap[g]? = some (.cells cur t (0, 0)) ∧ cur.size = n)
    (hz : ∀ u w, R W w → gFacts Vs u w d → ∃ cells, u k = .agg cells ∧ cells.size = n ∧ cells.all (·.oneCell') = true ∧ ∀ cur, w.heap[g]? = some (.cells cur t (0, 0)) → cur.size = n → R w (w.setRow g cells) ∧ V undef (w.setRow g cells)) : gGoals P R ops a W Vs [o] [d] [V] :=
  .cons (fun u w hR hF => gop_store_all hgd ty x y ho g t n (hx u) (u k) (hy u) hi (hg w hR) (hz u w hR hF)) .nil
end
end Go.Proofs.YtpnmhldaaaemeaaGreat.Grow
/- Chapter 24: copies of structs with lists in them. -/
namespace Go.Proofs.YtpnmhldaaaemeaaGreat.Snp
open Go.RowKit Go.Proofs.YtpnmhldaaaemeaaGreat.Pin
theorem one_int (k : IntKind) (i : Int) : (Value.int k i).oneCell' = true := rfl
theorem one_str (s : ByteArray) : (Value.string s).oneCell' = true := rfl
theorem twin_float (a : Nat) (w : World) : Calls Tryz.prog 123 #[.float .f64 a] w fun e w' => e = .returned (.float .f64 a) ∧ w = w' := by
  go_enter Tryz.func123, Tryz.ntmps123
  go_wp2
  go_ret
  exact ⟨rfl, rfl⟩
theorem size_scored : (Tryz.prog.info? 88).map (·.size) = some 2 := by kernel_rfl
set_option maxHeartbeats 4000000 in
set_option maxRecDepth 100000 in
theorem twin_scored (x : Sc)  (w : World)  :
    Calls Tryz.prog 113 #[.agg #[(.string x.1), (.float .f64 x.2)]] w fun e w' => (e = .returned (.agg #[(.string x.1), (.float .f64 x.2)])) ∧ Below w.heap.size w w' := by
  obtain ⟨OK, hOK⟩ : ∃ OK : Nat → Prop, OK = (fun r => w.heap.size ≤ r ∧ r ≠ w.heap.size + 1) := ⟨_, rfl⟩
  have HW0 : Hid (Below w.heap.size w ((w.alloc (.cells #[(.string x.1), (.float .f64 x.2)] 88)).alloc (.cells #[.string ⟨#[]⟩, .float .f64 0] 88))) := Lib.hid (((Below.refl _ w).alloc (Nat.le_refl _) _).alloc (by simp) _)
  have HB2 : Hid (((w.alloc (.cells #[(.string x.1), (.float .f64 x.2)] 88)).alloc (.cells #[.string ⟨#[]⟩, .float .f64 0] 88)).heap[w.heap.size + 1]? = some (.cells #[.string ⟨#[]⟩, .float .f64 0] 88 (0, 0))) := Lib.hid (by have := heap_alloc_new (w.alloc (.cells #[(.string x.1), (.float .f64 x.2)] 88)) (.cells #[.string ⟨#[]⟩, .float .f64 0] 88); simpa using this)
  have HBX : Hid (∀ W, Grow.But (w.heap.size + 1) ((w.alloc (.cells #[(.string x.1), (.float .f64 x.2)] 88)).alloc (.cells #[.string ⟨#[]⟩, .float .f64 0] 88)) W → W.heap[w.heap.size]? = some (.cells #[(.string x.1), (.float .f64 x.2)] 88 (0, 0))) := Lib.hid (fun W hR => (hR.block _ (by simp; omega) (by omega)).trans ((Lib.alloc_old _ _ _ (by simp)).trans (heap_alloc_new w _)))
  have HOK := Lib.hid hOK
  clear hOK
  go_enter Tryz.func113, Tryz.ntmps113
  go_wp2_with fail
  refine Grow.wp_region_last (b := w.heap.size + 1) [fun v _ => v = .pointer (some ⟨w.heap.size, 0, none⟩), fun v _ => v = (.string x.1), fun v _ => v = .pointer (some ⟨w.heap.size, 1, none⟩), fun v _ => v = (.float .f64 x.2), fun v _ => v = (.float .f64 x.2), fun v W => v = .agg #[(.string x.1), (.float .f64 x.2)], fun _ W => W.heap[w.heap.size + 1]? = some (.cells #[(.string x.1), (.float .f64 x.2)] 88 (0, 0))]
    [[], [0], [], [2], [3], [1, 4], [0, 1, 2, 3, 4, 5]] (by kernel_rfl) (by kernel_rfl) (by kernel_rfl) ?_ ?_ ?_
  · intro V hV
    have hst1 : ∀ x : Value, Grow.StableB (w.heap.size + 1) (fun v _ => v = x) := fun x v w w' h _ => h

    simp only [List.length_cons, List.length_nil, Nat.reduceAdd, Nat.reduceSub, List.take_succ_cons, List.take_zero, List.mem_cons, List.not_mem_nil, or_false] at hV
    rcases hV with rfl | rfl | rfl | rfl | rfl | rfl
    all_goals first | exact hst1 _
  · refine .cons (fun u w' hR hF => Grow.gop_n rfl ?_) ?_
    · go_simp
      exact Grow.But.refl _
    refine .cons (fun u w' hR hF => Grow.gop_n rfl ?_) ?_
    · have f0 : u 0 = .pointer (some ⟨w.heap.size, 0, none⟩) := hF.1
      have hbb := HBX.out w' hR
      have e0 : w'.cell? ⟨w.heap.size, 0, none⟩ = some (.string x.1) := by (rw [Lib.cell_of_heap hbb]; rfl)
      clear hbb
      go_simp
      exact Grow.But.refl _
    refine .cons (fun u w' hR hF => Grow.gop_n rfl ?_) ?_
    · go_simp
      exact Grow.But.refl _
    refine .cons (fun u w' hR hF => Grow.gop_n rfl ?_) ?_
    · have f0 : u 2 = .pointer (some ⟨w.heap.size, 1, none⟩) := hF.1
      have hbb := HBX.out w' hR
      have e0 : w'.cell? ⟨w.heap.size, 1, none⟩ = some (.float .f64 x.2) := by (rw [Lib.cell_of_heap hbb]; rfl)
      clear hbb
      go_simp
      exact Grow.But.refl _
    refine .cons (fun u w' hR hF => Grow.gop_n rfl ?_) ?_
    · have f0 : u 3 = (.float .f64 x.2) := hF.1
      go_simp
      exact (twin_float _ _).mono (by rintro e w'' ⟨rfl, rfl⟩; exact ⟨rfl, Grow.But.refl _⟩)
    refine .cons (fun u w' hR hF => Grow.gop_n rfl ?_) ?_
    · have f1 : u 1 = (.string x.1) := hF.1
      have f4 : u 4 = (.float .f64 x.2) := hF.2.1
      clear hF
      have HP := Lib.hid (show True ∧ True from ⟨trivial, trivial⟩)
      go_simp
      exact Grow.But.refl _
    refine Grow.gGoals.store ?a1 88 (.tmp 2) (.tmp 8) ?a2 (w.heap.size + 1) 88 2 5 (fun _ => rfl) (fun _ => rfl) (by kernel_rfl) (fun w' hR => hR.shape _ _ _ HB2.out) ?a5
    case a1 => rfl
    case a2 => rfl
    case a5 =>
      intro u w' hR hF
      have f0 := hF.2.2.2.2.2.1
      refine ⟨_, f0, rfl, by simp [Value.oneCell'], fun cur hc hs => ⟨Grow.But.row hc (by rw [hs]; rfl), setRow_heap _ _ _ _ _ _ hc⟩⟩
  · intro w' hR
    have HB3 : Hid (Below w.heap.size w w') := Lib.hid (HW0.out.trans (hR.below (B := w.heap.size) (by omega) (by simp; omega)))
    clear hR
    refine .cons (fun x0 f0 => ?_)
    refine .cons (fun x1 f1 => ?_)
    refine .cons (fun x2 f2 => ?_)
    refine .cons (fun x3 f3 => ?_)
    refine .cons (fun x4 f4 => ?_)
    refine .cons (fun x5 f5 => ?_)
    refine .cons (fun x6 f6 => ?_)
    refine .nil ?_
    have HF := Lib.hid f6
    clear f6 f0 f1 f2 f3 f4 f5
    go_simp
    go_wp2_with fail
    refine bodyPost_ret (results_cell_row rfl _ _ (w.heap.size + 1) 88 #[(.string x.1), (.float .f64 x.2)] (0, 0) _ rfl HF.out Tryz.underlying88 rfl size_scored) rfl ?_
    exact ⟨rfl, HB3.out⟩

theorem size_entry : (Tryz.prog.info? 95).map (·.size) = some 3 := by kernel_rfl
set_option maxHeartbeats 4000000 in
set_option maxRecDepth 100000 in
theorem twin_entry (x : En) (pv : Value) (w : World) (h0 : PairsAt w w.heap.size pv x.pairs) (l0 : (x.pairs).length ≤ 1048576) :
    Calls Tryz.prog 114 #[.agg #[(.int .u64 (x.ms : Int)), (.int .u64 (x.seq : Int)), pv]] w fun e w' => (∃ q0, e = .returned (.agg #[(.int .u64 (x.ms : Int)), (.int .u64 (x.seq : Int)), q0]) ∧ Tw_pairs w' (fun r => w.heap.size ≤ r) q0 x.pairs) ∧ Below w.heap.size w w' := by
  obtain ⟨OK, hOK⟩ : ∃ OK : Nat → Prop, OK = (fun r => w.heap.size ≤ r ∧ r ≠ w.heap.size + 1) := ⟨_, rfl⟩
  have HW0 : Hid (Below w.heap.size w ((w.alloc (.cells #[(.int .u64 (x.ms : Int)), (.int .u64 (x.seq : Int)), pv] 95)).alloc (.cells #[.int .u64 0, .int .u64 0, .slice none 0 0] 95))) := Lib.hid (((Below.refl _ w).alloc (Nat.le_refl _) _).alloc (by simp) _)
  have HB2 : Hid (((w.alloc (.cells #[(.int .u64 (x.ms : Int)), (.int .u64 (x.seq : Int)), pv] 95)).alloc (.cells #[.int .u64 0, .int .u64 0, .slice none 0 0] 95)).heap[w.heap.size + 1]? = some (.cells #[.int .u64 0, .int .u64 0, .slice none 0 0] 95 (0, 0))) := Lib.hid (by have := heap_alloc_new (w.alloc (.cells #[(.int .u64 (x.ms : Int)), (.int .u64 (x.seq : Int)), pv] 95)) (.cells #[.int .u64 0, .int .u64 0, .slice none 0 0] 95); simpa using this)
  have HBX : Hid (∀ W, Grow.But (w.heap.size + 1) ((w.alloc (.cells #[(.int .u64 (x.ms : Int)), (.int .u64 (x.seq : Int)), pv] 95)).alloc (.cells #[.int .u64 0, .int .u64 0, .slice none 0 0] 95)) W → W.heap[w.heap.size]? = some (.cells #[(.int .u64 (x.ms : Int)), (.int .u64 (x.seq : Int)), pv] 95 (0, 0))) := Lib.hid (fun W hR => (hR.block _ (by simp; omega) (by omega)).trans ((Lib.alloc_old _ _ _ (by simp)).trans (heap_alloc_new w _)))
  have HT0 : Hid (∀ W, Grow.But (w.heap.size + 1) ((w.alloc (.cells #[(.int .u64 (x.ms : Int)), (.int .u64 (x.seq : Int)), pv] 95)).alloc (.cells #[.int .u64 0, .int .u64 0, .slice none 0 0] 95)) W → Calls Tryz.prog 81 #[pv] W fun e w' => (∃ u, e = .returned u ∧ Tw_pairs w' OK u x.pairs) ∧ Below W.heap.size W w') := Lib.hid (fun W hR => by
    have hsz : w.heap.size + 2 ≤ W.heap.size := by have := hR.size; simp at this; omega
    have hb := HW0.out.trans (hR.below (B := w.heap.size) (by omega) (by simp; omega))
    refine (twin_pairs x.pairs pv W ((h0.below hb).more (by omega)) l0).mono ?_
    rintro e w' ⟨⟨q, hq, ht⟩, hb'⟩
    exact ⟨⟨q, hq, ht.mono (flat_el _) (fun r _ hr => by rw [hOK]; exact ⟨by omega, by omega⟩)⟩, hb'⟩)
  have HOK := Lib.hid hOK
  clear hOK h0 l0
  go_enter Tryz.func114, Tryz.ntmps114
  go_wp2_with fail
  refine Grow.wp_region_last (b := w.heap.size + 1) [fun v _ => v = .pointer (some ⟨w.heap.size, 0, none⟩), fun v _ => v = .agg #[(.int .u64 (x.ms : Int)), (.int .u64 (x.seq : Int))], fun v _ => v = .pointer (some ⟨w.heap.size, 2, none⟩), fun v _ => v = pv, fun v W => Tw_pairs W OK v x.pairs, fun v W => ∃ q0, v = .agg #[(.int .u64 (x.ms : Int)), (.int .u64 (x.seq : Int)), q0] ∧ Tw_pairs W OK q0 x.pairs, fun _ W => ∃ q0, W.heap[w.heap.size + 1]? = some (.cells #[(.int .u64 (x.ms : Int)), (.int .u64 (x.seq : Int)), q0] 95 (0, 0)) ∧ Tw_pairs W OK q0 x.pairs]
    [[], [0], [], [2], [3], [1, 4], [0, 1, 2, 3, 4, 5]] (by kernel_rfl) (by kernel_rfl) (by kernel_rfl) ?_ ?_ ?_
  · intro V hV
    have hst1 : ∀ x : Value, Grow.StableB (w.heap.size + 1) (fun v _ => v = x) := fun x v w w' h _ => h
    have hs0 : Grow.StableB (w.heap.size + 1) (fun v W => Tw_pairs W OK v x.pairs) := fun v w1 w2 h hr => h.keep (flat_el _) hr.size (fun r hok hlt => hr.block r hlt (by rw [HOK.out] at hok; exact hok.2))
    have hsb : Grow.StableB (w.heap.size + 1) (fun v W => ∃ q0, v = .agg #[(.int .u64 (x.ms : Int)), (.int .u64 (x.seq : Int)), q0] ∧ Tw_pairs W OK q0 x.pairs) := by
      rintro v w1 w2 ⟨q0, h0, p0⟩ hr
      exact ⟨q0, h0, hs0 q0 w1 w2 p0 hr⟩
    simp only [List.length_cons, List.length_nil, Nat.reduceAdd, Nat.reduceSub, List.take_succ_cons, List.take_zero, List.mem_cons, List.not_mem_nil, or_false] at hV
    rcases hV with rfl | rfl | rfl | rfl | rfl | rfl
    all_goals first | exact hst1 _ | exact hs0 | exact hsb
  · refine .cons (fun u w' hR hF => Grow.gop_n rfl ?_) ?_
    · go_simp
      exact Grow.But.refl _
    refine .cons (fun u w' hR hF => Grow.gop_n rfl ?_) ?_
    · have f0 : u 0 = .pointer (some ⟨w.heap.size, 0, none⟩) := hF.1
      have hbb := HBX.out w' hR
      have e0 : w'.cell? ⟨w.heap.size, 0, none⟩ = some (.int .u64 (x.ms : Int)) := by (rw [Lib.cell_of_heap hbb]; rfl)
      have e1 : w'.cell? ⟨w.heap.size, 1, none⟩ = some (.int .u64 (x.seq : Int)) := by (rw [Lib.cell_of_heap hbb]; rfl)
      clear hbb
      go_simp
      exact Grow.But.refl _
    refine .cons (fun u w' hR hF => Grow.gop_n rfl ?_) ?_
    · go_simp
      exact Grow.But.refl _
    refine .cons (fun u w' hR hF => Grow.gop_n rfl ?_) ?_
    · have f0 : u 2 = .pointer (some ⟨w.heap.size, 2, none⟩) := hF.1
      have hbb := HBX.out w' hR
      have e0 : w'.cell? ⟨w.heap.size, 2, none⟩ = some pv := by (rw [Lib.cell_of_heap hbb]; rfl)
      clear hbb
      go_simp
      exact Grow.But.refl _
    refine .cons (fun u w' hR hF => Grow.gop_n rfl ?_) ?_
    · have f0 : u 3 = pv := hF.1
      have hT := HT0.out w' hR
      go_simp
      exact hT.mono (by rintro e w'' ⟨⟨q, rfl, hq⟩, hb⟩; exact ⟨q, rfl, Grow.But.of_grows hb, hq⟩)
    refine .cons (fun u w' hR hF => Grow.gop_n rfl ?_) ?_
    · have f1 : u 1 = .agg #[(.int .u64 (x.ms : Int)), (.int .u64 (x.seq : Int))] := hF.1
      have p0 : Tw_pairs w' OK (u 4) x.pairs := hF.2.1
      obtain ⟨g0, f4, _⟩ := id p0
      rw [f4] at p0
      clear hF
      have HP0 := Lib.hid p0
      clear p0
      go_simp
      exact ⟨Grow.But.refl _, HP0.out⟩
    refine Grow.gGoals.store ?a1 95 (.tmp 2) (.tmp 8) ?a2 (w.heap.size + 1) 95 3 5 (fun _ => rfl) (fun _ => rfl) (by kernel_rfl) (fun w' hR => hR.shape _ _ _ HB2.out) ?a5
    case a1 => rfl
    case a2 => rfl
    case a5 =>
      intro u w' hR hF
      obtain ⟨q0, f0, p0⟩ := hF.2.2.2.2.2.1
      obtain ⟨g0, e0, _⟩ := id p0
      have o0 : q0.oneCell' = true := by rw [e0]; rfl
      clear e0
      refine ⟨_, f0, rfl, by simp [one_int, o0], fun cur hc hs => ⟨Grow.But.row hc (by rw [hs]; rfl), ⟨q0, setRow_heap _ _ _ _ _ _ hc, p0.keep (flat_el _) (by simp [World.setRow]) (fun r hok _ => setRow_other _ _ _ _ (by rw [HOK.out] at hok; exact hok.2))⟩⟩⟩
  · intro w' hR
    have HB3 : Hid (Below w.heap.size w w') := Lib.hid (HW0.out.trans (hR.below (B := w.heap.size) (by omega) (by simp; omega)))
    clear hR
    refine .cons (fun x0 f0 => ?_)
    refine .cons (fun x1 f1 => ?_)
    refine .cons (fun x2 f2 => ?_)
    refine .cons (fun x3 f3 => ?_)
    refine .cons (fun x4 f4 => ?_)
    refine .cons (fun x5 f5 => ?_)
    refine .cons (fun x6 f6 => ?_)
    refine .nil ?_
    obtain ⟨q0, fz, p0⟩ := f6
    have HF := Lib.hid fz
    have HP0 := Lib.hid p0
    clear fz p0 f0 f1 f2 f3 f4 f5
    go_simp
    go_wp2_with fail
    refine bodyPost_ret (results_cell_row rfl _ _ (w.heap.size + 1) 95 #[(.int .u64 (x.ms : Int)), (.int .u64 (x.seq : Int)), q0] (0, 0) _ rfl HF.out Tryz.underlying95 rfl size_entry) rfl ?_
    exact ⟨⟨q0, rfl, HP0.out.mono (flat_el _) (fun r _ hok => by rw [HOK.out] at hok; exact hok.1)⟩, HB3.out⟩

end Go.Proofs.YtpnmhldaaaemeaaGreat.Snp
/- Chapter 24: copies with a spare element behind. Printed by gen_twin24.py scoreds entries. -/
namespace Go.Proofs.YtpnmhldaaaemeaaGreat.Snp
open Go.RowKit Go.Proofs.YtpnmhldaaaemeaaGreat.Pin

def TwEn (w : World) (ok : Nat → Prop) (x : En) (cs : List Value) : Prop := ∃ pv, cs = [.int .u64 (x.ms : Int), .int .u64 (x.seq : Int), pv] ∧ Tw_pairs w ok pv x.pairs
theorem tw_en : ElP TwEn :=
  ⟨fun _ _ _ _ _ ⟨pv, e, h⟩ hs hk => ⟨pv, e, h.keep (flat_el _) hs hk⟩, fun _ _ _ _ _ ⟨pv, e, h⟩ hk => ⟨pv, e, h.mono (flat_el _) hk⟩⟩
theorem winfo_scoreds : (Tryz.prog.info? 88).map (fun i => (i.zero, i.size, i.bytes)) = some (some (.agg #[.string ⟨#[]⟩, .float .f64 0]), 2, 24) := by kernel_rfl
abbrev sp_scoreds : List Value := [.string ⟨#[115, 112, 97, 114, 101]⟩, .float .f64 0]
abbrev Tw_scoreds (w : World) (ok : Nat → Prop) (v : Value) (l : List Sc) : Prop := TwV 2 (Flat fun p : Sc => [Value.string p.1, .float .f64 p.2]) sp_scoreds w ok v l
set_option maxHeartbeats 2000000 in
set_option maxRecDepth 100000 in
theorem twin_scoreds (l : List Sc) (v : Value) (w : World) (hT : ScoredsAt w w.heap.size v l) (hl : l.length ≤ 1048576) :
    Calls Tryz.prog 82 #[v] w fun e w' => (∃ u, e = .returned u ∧ Tw_scoreds w' (fun r => w.heap.size ≤ r) u l) ∧ Below w.heap.size w w' := by
  obtain ⟨A, c, rfl, hT⟩ := hT
  obtain ⟨n, hn⟩ : ∃ n, n = l.length := ⟨_, rfl⟩
  rw [← hn] at hl ⊢
  have HN := Lib.hid hn
  have HT := Lib.hid hT
  obtain ⟨i0, hi, hz0, hz1, hz2⟩ := info_parts winfo_scoreds
  have HI := Lib.hid hi
  have HZ0 := Lib.hid hz0
  have HZ1 := Lib.hid hz1
  have HZ2 := Lib.hid hz2
  clear hi hz0 hz1 hz2 hn hT
  go_enter Tryz.func82, Tryz.ntmps82
  go_wp2_with (at_make; refine wpList_make_own _ rfl _ _ 36 rfl w.heap.size 88 i0 (.agg #[.string ⟨#[]⟩, .float .f64 0]) 2 Tryz.underlying36 HI.out HZ0.out HZ1.out .i64 .i64 _ (n + 1) rfl rfl ?c1 ?c2 ?c3 ?c4 ?_)
  case c1 => omega
  case c2 => rw [HZ2.out]; omega
  case c3 => unfold maxLen; omega
  case c4 => exact Nat.le_refl _
  intro w1 hown1 hgrow1
  obtain ⟨g, hg⟩ : ∃ g, g = w.heap.size := ⟨_, rfl⟩
  rw [← hg] at hown1 ⊢
  have HO1 : Hid (TwA 88 2 (Flat fun p : Sc => [Value.string p.1, .float .f64 p.2]) sp_scoreds w.heap.size w1 g 0 n l) := Lib.hid (TwA.zero HN.out (by rw [← hg]; exact hown1))
  have HB1 : Hid (Below w.heap.size w w1) := Lib.hid ((Below.refl _ w).grown hgrow1 (Nat.le_refl _) (fun b e => by cases e))
  have HG := Lib.hid hg
  clear hown1 hgrow1 hg
  go_wp2_with fail
  go_loopw [3, 4] (fun v i wr => ∃ (k : Nat), k ≤ n ∧ i = .int .i64 k ∧ v = .slice (some ⟨g, 0, none⟩) k (n + 1) ∧ Hid (TwA 88 2 (Flat fun p : Sc => [Value.string p.1, .float .f64 p.2]) sp_scoreds w.heap.size wr g k n l) ∧ Hid (Below w.heap.size w wr)) (fun _ i _ => n - (intOf i).toNat)
  case atStart => exact ⟨0, by omega, rfl, rfl, HO1, HB1⟩
  case round =>
    obtain ⟨k, hk, rfl, rfl, HO, HW⟩ := hrel
    clear HO1 HB1
    by_cases hlt : (k : Int) < (n : Int)
    · have hkl : k < l.length := by have := HN.out; omega
      obtain ⟨r, o, rfl, hr, hc⟩ := HT.out (by omega)
      obtain ⟨x, hx⟩ : ∃ x, x = l[k] := ⟨_, rfl⟩
      have HX := Lib.hid hx
      have hck := hc k hkl
      rw [← hx] at hck
      have x1 : wr.cell? ⟨r, o + k * 2, none⟩ = some (.string x.1) := (HW.out.cell (p := ⟨r, _, none⟩) hr).trans hck.1
      have x2 : wr.cell? ⟨r, o + k * 2 + 1, none⟩ = some (.float .f64 x.2) := (HW.out.cell (p := ⟨r, _, none⟩) hr).trans hck.2
      have HTW := Lib.hid (twin_scored x wr)
      clear hx hc hck
      go_wp2_with fail
      refine HTW.out.mono ?_
      rintro e w2 ⟨rfl, hb2⟩
      have HO2 := Lib.hid (HO.out.below (flat_el _) hb2)
      have HW2 := Lib.hid (HW.out.trans (hb2.mono HW.out.size))
      clear hb2
      obtain ⟨xs, hown, hnext, -⟩ := HO2.out.next (flat_el _)
      have HC := Lib.hid (hown.alloc (.cells #[.string x.1, .float .f64 x.2] 88))
      have HNX := Lib.hid hnext
      clear hown hnext
      go_wp2_with (at_builtin; refine wpList_append_fits _ rfl _ _ 36 rfl w.heap.size 88 i0 2 Tryz.underlying36 HI.out HZ1.out g k (n + 1) xs rfl HC.out ⟨w2.heap.size, 0, none⟩ 1 1 [.string x.1, .float .f64 x.2] rfl rfl ?c1 ?c2 ?c3 ?_)
      case c1 => exact new_cells w2 [.string x.1, .float .f64 x.2] 88
      case c2 => simp [Value.oneCell']
      case c3 => omega
      intro w3 hown3 hgr3
      have HO3 : Hid (TwA 88 2 (Flat fun p : Sc => [Value.string p.1, .float .f64 p.2]) sp_scoreds w.heap.size w3 g (k + 1) n l) := Lib.hid (HNX.out wr w3 _ hkl [.string x.1, .float .f64 x.2] HW.out.size HO.out.lt.2 (by rw [← HX.out]; rfl) rfl hown3 hgr3)
      have HW3 : Hid (Below w.heap.size w w3) := Lib.hid ((HW2.out.alloc HW2.out.size _).grown hgr3 (by have := HW2.out.size; simp; omega) (fun b e => by have := HO2.out.lt.1; cases e; exact this))
      clear hown3 hgr3
      go_wp2_with fail
      exact ⟨⟨k + 1, by omega, by go_num, by go_num, HO3, HW3⟩, by simp [intOf]; omega⟩
    · have hkn : k = n := by omega
      obtain ⟨xs, hown, -, hend⟩ := HO.out.next (flat_el _)
      have HC := Lib.hid (hown.alloc (.cells #[.string ⟨#[115, 112, 97, 114, 101]⟩, .float .f64 0] 88))
      have HND := Lib.hid hend
      have HK := Lib.hid hkn
      clear hown hend
      go_wp2_with (at_builtin; refine wpList_append_fits _ rfl _ _ 36 rfl w.heap.size 88 i0 2 Tryz.underlying36 HI.out HZ1.out g k (n + 1) xs rfl HC.out ⟨wr.heap.size, 0, none⟩ 1 1 [.string ⟨#[115, 112, 97, 114, 101]⟩, .float .f64 0] rfl rfl ?d1 ?d2 ?d3 ?_)
      case d2 => simp [Value.oneCell']
      intro w3 hown3 hgr3
      have HV : Hid (Tw_scoreds w3 (fun r => w.heap.size ≤ r) (.slice (some ⟨g, 0, none⟩) n (n + 1)) l) := Lib.hid (HND.out w3 _ HK.out rfl (by rw [HK.out]; exact hown3) hgr3)
      have HW3 : Hid (Below w.heap.size w w3) := Lib.hid ((HW.out.alloc HW.out.size _).grown hgr3 (by have := HW.out.size; simp; omega) (fun b e => by have := HO.out.lt.1; cases e; exact this))
      clear hown3 hgr3
      go_wp2_with fail
      go_ret
      exact ⟨⟨_, rfl, HV.out⟩, HW3.out⟩

theorem winfo_entries : (Tryz.prog.info? 95).map (fun i => (i.zero, i.size, i.bytes)) = some (some (.agg #[.int .u64 0, .int .u64 0, .slice none 0 0]), 3, 40) := by kernel_rfl
abbrev sp_entries : List Value := [.int .u64 7777, .int .u64 0, .slice none 0 0]
abbrev Tw_entries (w : World) (ok : Nat → Prop) (v : Value) (l : List En) : Prop := TwV 3 TwEn sp_entries w ok v l
set_option maxHeartbeats 2000000 in
set_option maxRecDepth 100000 in
theorem twin_entries (l : List En) (v : Value) (w : World) (hT : EntriesAt w w.heap.size v l) (hl : l.length ≤ 1048576) (hm : ∀ y ∈ l, y.pairs.length ≤ 1048576) :
    Calls Tryz.prog 83 #[v] w fun e w' => (∃ u, e = .returned u ∧ Tw_entries w' (fun r => w.heap.size ≤ r) u l) ∧ Below w.heap.size w w' := by
  obtain ⟨A, c, rfl, hT⟩ := hT
  obtain ⟨n, hn⟩ : ∃ n, n = l.length := ⟨_, rfl⟩
  rw [← hn] at hl ⊢
  have HN := Lib.hid hn
  have HT := Lib.hid hT
  have HLM := Lib.hid hm
  clear hm
  obtain ⟨i0, hi, hz0, hz1, hz2⟩ := info_parts winfo_entries
  have HI := Lib.hid hi
  have HZ0 := Lib.hid hz0
  have HZ1 := Lib.hid hz1
  have HZ2 := Lib.hid hz2
  clear hi hz0 hz1 hz2 hn hT
  go_enter Tryz.func83, Tryz.ntmps83
  go_wp2_with (at_make; refine wpList_make_own _ rfl _ _ 37 rfl w.heap.size 95 i0 (.agg #[.int .u64 0, .int .u64 0, .slice none 0 0]) 3 Tryz.underlying37 HI.out HZ0.out HZ1.out .i64 .i64 _ (n + 1) rfl rfl ?c1 ?c2 ?c3 ?c4 ?_)
  case c1 => omega
  case c2 => rw [HZ2.out]; omega
  case c3 => unfold maxLen; omega
  case c4 => exact Nat.le_refl _
  intro w1 hown1 hgrow1
  obtain ⟨g, hg⟩ : ∃ g, g = w.heap.size := ⟨_, rfl⟩
  rw [← hg] at hown1 ⊢
  have HO1 : Hid (TwA 95 3 TwEn sp_entries w.heap.size w1 g 0 n l) := Lib.hid (TwA.zero HN.out (by rw [← hg]; exact hown1))
  have HB1 : Hid (Below w.heap.size w w1) := Lib.hid ((Below.refl _ w).grown hgrow1 (Nat.le_refl _) (fun b e => by cases e))
  have HG := Lib.hid hg
  clear hown1 hgrow1 hg
  go_wp2_with fail
  go_loopw [3, 4] (fun v i wr => ∃ (k : Nat), k ≤ n ∧ i = .int .i64 k ∧ v = .slice (some ⟨g, 0, none⟩) k (n + 1) ∧ Hid (TwA 95 3 TwEn sp_entries w.heap.size wr g k n l) ∧ Hid (Below w.heap.size w wr)) (fun _ i _ => n - (intOf i).toNat)
  case atStart => exact ⟨0, by omega, rfl, rfl, HO1, HB1⟩
  case round =>
    obtain ⟨k, hk, rfl, rfl, HO, HW⟩ := hrel
    clear HO1 HB1
    by_cases hlt : (k : Int) < (n : Int)
    · have hkl : k < l.length := by have := HN.out; omega
      obtain ⟨r, o, rfl, hr, hc⟩ := HT.out (by omega)
      obtain ⟨x, hx⟩ : ∃ x, x = l[k] := ⟨_, rfl⟩
      have HX := Lib.hid hx
      have hck := hc k hkl
      rw [← hx] at hck
      obtain ⟨k1, k2, pv, k3, k4⟩ := hck
      have x1 : wr.cell? ⟨r, o + k * 3, none⟩ = some (.int .u64 (x.ms : Int)) := (HW.out.cell (p := ⟨r, _, none⟩) hr).trans k1
      have x2 : wr.cell? ⟨r, o + k * 3 + 1, none⟩ = some (.int .u64 (x.seq : Int)) := (HW.out.cell (p := ⟨r, _, none⟩) hr).trans k2
      have x3 : wr.cell? ⟨r, o + k * 3 + 2, none⟩ = some pv := (HW.out.cell (p := ⟨r, _, none⟩) hr).trans k3
      have HTW := Lib.hid (twin_entry x pv wr ((k4.below HW.out).more HW.out.size) (by rw [hx]; exact HLM.out _ (List.getElem_mem hkl)))
      clear k1 k2 k3 k4
      clear hx hc
      go_wp2_with fail
      refine HTW.out.mono ?_
      rintro e w2 ⟨⟨q0, rfl, hq0⟩, hb2⟩
      obtain ⟨gq, rfl, _⟩ := id hq0
      have HQ := Lib.hid hq0
      clear hq0
      have HO2 := Lib.hid (HO.out.below tw_en hb2)
      have HW2 := Lib.hid (HW.out.trans (hb2.mono HW.out.size))
      clear hb2
      obtain ⟨xs, hown, hnext, -⟩ := HO2.out.next tw_en
      have HC := Lib.hid (hown.alloc (.cells #[.int .u64 (x.ms : Int), .int .u64 (x.seq : Int), .slice (some ⟨gq, 0, none⟩) x.pairs.length (x.pairs.length + 1)] 95))
      have HNX := Lib.hid hnext
      clear hown hnext
      go_wp2_with (at_builtin; refine wpList_append_fits _ rfl _ _ 37 rfl w.heap.size 95 i0 3 Tryz.underlying37 HI.out HZ1.out g k (n + 1) xs rfl HC.out ⟨w2.heap.size, 0, none⟩ 1 1 [.int .u64 (x.ms : Int), .int .u64 (x.seq : Int), .slice (some ⟨gq, 0, none⟩) x.pairs.length (x.pairs.length + 1)] rfl rfl ?c1 ?c2 ?c3 ?_)
      case c1 => exact new_cells w2 [.int .u64 (x.ms : Int), .int .u64 (x.seq : Int), .slice (some ⟨gq, 0, none⟩) x.pairs.length (x.pairs.length + 1)] 95
      case c2 => simp [Value.oneCell']
      case c3 => omega
      intro w3 hown3 hgr3
      have HO3 : Hid (TwA 95 3 TwEn sp_entries w.heap.size w3 g (k + 1) n l) := Lib.hid (HNX.out wr w3 _ hkl [.int .u64 (x.ms : Int), .int .u64 (x.seq : Int), .slice (some ⟨gq, 0, none⟩) x.pairs.length (x.pairs.length + 1)] HW.out.size HO.out.lt.2 (by rw [← HX.out]; exact ⟨_, rfl, HQ.out⟩) rfl hown3 hgr3)
      have HW3 : Hid (Below w.heap.size w w3) := Lib.hid ((HW2.out.alloc HW2.out.size _).grown hgr3 (by have := HW2.out.size; simp; omega) (fun b e => by have := HO2.out.lt.1; cases e; exact this))
      clear hown3 hgr3
      go_wp2_with fail
      exact ⟨⟨k + 1, by omega, by go_num, by go_num, HO3, HW3⟩, by simp [intOf]; omega⟩
    · have hkn : k = n := by omega
      obtain ⟨xs, hown, -, hend⟩ := HO.out.next tw_en
      have HC := Lib.hid (hown.alloc (.cells #[.int .u64 7777, .int .u64 0, .slice none 0 0] 95))
      have HND := Lib.hid hend
      have HK := Lib.hid hkn
      clear hown hend
      go_wp2_with (at_builtin; refine wpList_append_fits _ rfl _ _ 37 rfl w.heap.size 95 i0 3 Tryz.underlying37 HI.out HZ1.out g k (n + 1) xs rfl HC.out ⟨wr.heap.size, 0, none⟩ 1 1 [.int .u64 7777, .int .u64 0, .slice none 0 0] rfl rfl ?d1 ?d2 ?d3 ?_)
      case d2 => simp [Value.oneCell']
      intro w3 hown3 hgr3
      have HV : Hid (Tw_entries w3 (fun r => w.heap.size ≤ r) (.slice (some ⟨g, 0, none⟩) n (n + 1)) l) := Lib.hid (HND.out w3 _ HK.out rfl (by rw [HK.out]; exact hown3) hgr3)
      have HW3 : Hid (Below w.heap.size w w3) := Lib.hid ((HW.out.alloc HW.out.size _).grown hgr3 (by have := HW.out.size; simp; omega) (fun b e => by have := HO.out.lt.1; cases e; exact this))
      clear hown3 hgr3
      go_wp2_with fail
      go_ret
      exact ⟨⟨_, rfl, HV.out⟩, HW3.out⟩

end Go.Proofs.YtpnmhldaaaemeaaGreat.Snp
