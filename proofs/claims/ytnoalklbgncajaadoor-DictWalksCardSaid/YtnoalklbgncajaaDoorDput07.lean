/- Chapter 07: the blocks of a dict when a place turns. -/
import Derived.Test.YtnoalklbgncajaaDoorDp07
namespace Go.Proofs.YtnoalklbgncajaaDoor.Dct
open Go Go.RowKit Go.Proofs.YtnoalklbgncajaaDoor.Pin Go.Proofs.YtnoalklbgncajaaDoor.Mps Go.Proofs.YtnoalklbgncajaaDoor.Bok Go.Proofs.YtnoalklbgncajaaDoor.Uw Go.Proofs.YtnoalklbgncajaaDoor.Sip
attribute [local go_sem high] eql_tab
attribute [local go_sem high] run_store_U cells_U eqGuard_U asIntOf_U
theorem run_equalIn_map (w : World) (dd : Nat) (o : Option Nat) : (Op.equalIn (dd + 1) 52 (.map o) (.map none)).run Tryd.prog w = .ok o.isNone w := by
  cases o <;> simp [Op.equalIn, run_underlying Tryd.underlying52]
theorem eql_map (w : World) (o : Option Nat) : (binOp .eql 52 (.map o) (.map none)).run Tryd.prog w = .ok (.bool o.isNone) w := by
  simp only [binOp]
  simp [Op.equal, Op.maxDepth, run_equalIn_map w 9999 o]
theorem neq_map (w : World) (o : Option Nat) : (binOp .neq 52 (.map o) (.map none)).run Tryd.prog w = .ok (.bool o.isSome) w := by
  simp only [binOp]
  cases o <;> simp [Op.equal, Op.maxDepth, run_equalIn_map w 9999 _]
theorem OnlyMap.frm {w w' : World} {b : Nat} (h : OnlyMap w w' b) : Frm (fun r => r = b) w w' := ⟨h.1, h.2.1, h.2.2.1, by rw [h.2.2.2.1]; exact Nat.le_refl _, fun k _ hn => h.2.2.2.2 k hn⟩
theorem DAt.with0 {w w' : World} {d : Nat} {s : St} {ps' : List Pl} (h : DAt w d s) (ht : s.t1 = none) (hd : w'.heap[d]? = w.heap[d]?) (hT : TabAt w' s.a0 ps') (hl : ps'.length = s.p0.length) (hn : (d :: s.a0 :: blks ps').Nodup) : DAt w' d { s with p0 := ps' } := by
  refine ⟨hd.trans (h.top.trans ?_), hT, fun x hx => ?_, ?_, by rw [hl]; exact h.len0, fun x hx => ?_⟩
  · simp [St.cells, hl]
  · rw [ht] at hx; cases hx
  · simpa [St.own, ht] using hn
  · rw [ht] at hx; cases hx
theorem DAt.with0' {w w' : World} {d : Nat} {s : St} {ps' : List Pl} (h : DAt w d s) (hd : w'.heap[d]? = w.heap[d]?) (hT : TabAt w' s.a0 ps') (hl : ps'.length = s.p0.length) (h1 : ∀ x, s.t1 = some x → TabAt w' x.1 x.2) (hn : (St.own d { s with p0 := ps' }).Nodup) : DAt w' d { s with p0 := ps' } := by
  refine ⟨hd.trans (h.top.trans ?_), hT, h1, hn, by rw [hl]; exact h.len0, h.len1⟩
  simp [St.cells, hl]
theorem DAt.with1 {w w' : World} {d : Nat} {s : St} {x : Nat × List Pl} {ps' : List Pl} (h : DAt w d s) (ht : s.t1 = some x) (hd : w'.heap[d]? = w.heap[d]?) (h0 : TabAt w' s.a0 s.p0) (hT : TabAt w' x.1 ps') (hl : ps'.length = x.2.length) (hn : (d :: s.a0 :: blks s.p0 ++ x.1 :: blks ps').Nodup) : DAt w' d { s with t1 := some (x.1, ps') } := by
  refine ⟨hd.trans (h.top.trans ?_), h0, fun y hy => ?_, ?_, h.len0, fun y hy => ?_⟩
  · simp [St.cells, t1V, ht, hl]
  · cases hy; exact hT
  · simpa [St.own] using hn
  · cases hy; rw [hl]; exact h.len1 x ht
attribute [local go_sem high] eql_map neq_map
theorem wpList_put_new {ops : Array Oper} {rest : List Oper} {o : Oper} {a : Act} {Q : Exit → Act → World → Prop} (w : World) (hgd : o.guard = none) (m x v : Operand) (hop : o.op = Op.mapUpdate 52 m x v) (M : Nat) (ps : List (ByteArray × Value)) (nm : ByteArray) (val : Value)
    (hm : a.eval m = .map (some M)) (hx : a.eval x = .string nm) (hv : a.eval v = val) (h : MapAt w M ps) (hn : seek nm ps 0 = none)
    (hK : ∀ w', MapAt w' M (ps ++ [(nm, val)]) → OnlyMap w w' M → wpList Tryd.prog ops Q rest (a.put o.dst undef) w') : wpList Tryd.prog ops Q (o :: rest) a w := by
  refine wpList_plain hgd fun K' hK' => ?_
  obtain ⟨w', hrun, r1, r2⟩ := put_new (P := Tryd.prog) Tryd.underlying52 Tryd.underlying9 h nm val hn
  unfold Oper.wp
  simp [execOp, hop, hm, hx, hv, hrun, Result.andThen]
  exact hK' _ _ (hK w' r1 r2)
/-- a table, when a key has been put in that was not there -/
def PutPs (w : World) (i : Nat) (k : ByteArray) (v : Int) (ps ps' : List Pl) : Prop :=
  ∃ b l, ps' = ps.set i (some (b, l ++ [(k, v)])) ∧ (ps[i]? = some (some (b, l)) ∨ (ps[i]? = some none ∧ l = [] ∧ w.heap.size ≤ b))
def St.tg (s : St) : Nat × List Pl := match s.t1 with | none => (s.a0, s.p0) | some x => x
def St.withT (s : St) (ps : List Pl) : St := match s.t1 with | none => { s with p0 := ps } | some x => { s with t1 := some (x.1, ps) }
theorem seek_new {k : ByteArray} : ∀ {l : Ents} (i : Nat), (∀ x ∈ l, x.1 ≠ k) → seek k (mapE l) i = none
  | [], _, _ => rfl
  | x :: l, i, h => by
    have h1 : (k == x.1) = false := by
      cases e : (k == x.1) with
      | false => rfl
      | true => exact absurd ((MapKept.bytes_beq _ _).1 e).symm (h x (by simp))
    show (if (k == x.1) = true then _ else seek k (mapE l) (i + 1)) = none
    rw [h1]
    exact seek_new (i + 1) (fun y hy => h y (by simp [hy]))
theorem St.t1_cases (s : St) : s.t1 = none ∨ ∃ x, s.t1 = some x := by cases s.t1 <;> simp
theorem own_none {d : Nat} {s : St} (ht : s.t1 = none) : s.own d = d :: s.a0 :: blks s.p0 := by simp [St.own, ht]
theorem own_some {d : Nat} {s : St} {x : Nat × List Pl} (ht : s.t1 = some x) : s.own d = d :: s.a0 :: (blks s.p0 ++ x.1 :: blks x.2) := by simp [St.own, ht]
theorem DAt.own_lt {w : World} {d : Nat} {s : St} (h : DAt w d s) : ∀ b ∈ s.own d, b < w.heap.size := by
  intro b hb
  have h1 := (Array.getElem?_eq_some_iff.1 h.top).1
  cases ht : s.t1 with
  | none =>
    rw [own_none ht] at hb
    rcases List.mem_cons.1 hb with rfl | hb
    · exact h1
    rcases List.mem_cons.1 hb with rfl | hb
    · exact h.tab0.lt.1
    exact h.tab0.lt.2 b hb
  | some x =>
    rw [own_some ht] at hb
    rcases List.mem_cons.1 hb with rfl | hb
    · exact h1
    rcases List.mem_cons.1 hb with rfl | hb
    · exact h.tab0.lt.1
    rcases List.mem_append.1 hb with hb | hb
    · exact h.tab0.lt.2 b hb
    rcases List.mem_cons.1 hb with rfl | hb
    · exact (h.tab1 x ht).lt.1
    exact (h.tab1 x ht).lt.2 b hb
theorem DAt.turn0 {w w' : World} {d i b : Nat} {s : St} {l l' : Ents} (h : DAt w d s) (hi : s.p0[i]? = some (some (b, l))) (hm : MapAt w' b (mapE l')) (ho : OnlyMap w w' b) : DAt w' d { s with p0 := s.p0.set i (some (b, l')) } := by
  have hbm : b ∈ blks s.p0 := blks_mem (List.mem_of_getElem? hi)
  have hap := h.apart
  have hb2 : (blks (s.p0.set i (some (b, l')))) = blks s.p0 := blks_set_some hi
  rcases s.t1_cases with ht | ⟨x, ht⟩
  · rw [own_none ht] at hap
    obtain ⟨n1, n2⟩ := List.nodup_cons.1 hap
    obtain ⟨n3, n4⟩ := List.nodup_cons.1 n2
    have hbd : d ≠ b := fun e => n1 (by rw [e]; simp [hbm])
    have hba : s.a0 ≠ b := fun e => n3 (by rw [e]; exact hbm)
    exact h.with0' (ho.2.2.2.2 d hbd) (h.tab0.turn hi hm ho hba n4) (by simp) (fun x hx => by rw [ht] at hx; cases hx) (by rw [own_none (by exact ht)]; simpa [hb2] using hap)
  · rw [own_some ht] at hap
    obtain ⟨n1, n2⟩ := List.nodup_cons.1 hap
    obtain ⟨n3, n4⟩ := List.nodup_cons.1 n2
    have hbd : d ≠ b := fun e => n1 (by rw [e]; simp [hbm])
    have hba : s.a0 ≠ b := fun e => n3 (by rw [e]; simp [hbm])
    obtain ⟨n5, n6, n7⟩ := List.nodup_append.1 n4
    refine h.with0' (ho.2.2.2.2 d hbd) (h.tab0.turn hi hm ho hba n5) (by simp) (fun y hy => ?_) (by rw [own_some (x := x) (by exact ht)]; simpa [hb2] using hap)
    have : y = x := by rw [ht] at hy; exact (Option.some.inj hy).symm
    subst this
    exact (h.tab1 y ht).frm (OnlyMap.frm ho) (fun e => n7 b hbm y.1 (by simp) e.symm) (fun c hc e => n7 b hbm c (by simp [hc]) e.symm)
theorem DAt.turn1 {w w' : World} {d i b : Nat} {s : St} {x : Nat × List Pl} {l l' : Ents} (h : DAt w d s) (ht : s.t1 = some x) (hi : x.2[i]? = some (some (b, l))) (hm : MapAt w' b (mapE l')) (ho : OnlyMap w w' b) : DAt w' d { s with t1 := some (x.1, x.2.set i (some (b, l'))) } := by
  have hbm : b ∈ blks x.2 := blks_mem (List.mem_of_getElem? hi)
  have hap := h.apart
  have hb2 : (blks (x.2.set i (some (b, l')))) = blks x.2 := blks_set_some hi
  rw [own_some ht] at hap
  obtain ⟨n1, n2⟩ := List.nodup_cons.1 hap
  obtain ⟨n3, n4⟩ := List.nodup_cons.1 n2
  have hbd : d ≠ b := fun e => n1 (by rw [e]; simp [hbm])
  have hba : s.a0 ≠ b := fun e => n3 (by rw [e]; simp [hbm])
  obtain ⟨n5, n6, n7⟩ := List.nodup_append.1 n4
  obtain ⟨n8, n9⟩ := List.nodup_cons.1 n6
  exact h.with1 ht (ho.2.2.2.2 d hbd) (h.tab0.frm (OnlyMap.frm ho) hba (fun c hc e => n7 c hc b (by simp [hbm]) e)) ((h.tab1 x ht).turn hi hm ho (fun e => n8 (by rw [e]; exact hbm)) n9) (by simp) (by rw [hb2]; simpa using hap)
theorem DAt.fresh0 {w : World} {d i : Nat} {s : St} (h : DAt w d s) (hi : s.p0[i]? = some none) : DAt ((w.alloc (.map #[] 0)).setCell ⟨s.a0, i, none⟩ (.map (some w.heap.size))) d { s with p0 := s.p0.set i (some (w.heap.size, [])) } := by
  have hlt := h.own_lt
  have hap := h.apart
  have hp := blks_set_none (l := []) (b := w.heap.size) hi
  have hb : Below w.heap.size w (w.alloc (.map #[] 0)) := (Below.refl _ _).alloc (Nat.le_refl _) _
  have h' := h.below hb
  have hT := (h'.tab0).fresh (i := i) (map_empty w)
  have hso : ∀ k, k ≠ s.a0 → ((w.alloc (.map #[] 0)).setCell ⟨s.a0, i, none⟩ (.map (some w.heap.size))).heap[k]? = (w.alloc (.map #[] 0)).heap[k]? := fun k hk => set_block_other _ ⟨s.a0, i, none⟩ _ k hk
  rcases s.t1_cases with ht | ⟨x, ht⟩
  · rw [own_none ht] at hap hlt
    obtain ⟨n1, n2⟩ := List.nodup_cons.1 hap
    have hbd : d ≠ s.a0 := fun e => n1 (by rw [← e]; simp)
    refine h'.with0' (hso d hbd) hT (by simp) (fun x hx => by rw [ht] at hx; cases hx) ?_
    rw [own_none (by exact ht)]
    have hq : (d :: s.a0 :: w.heap.size :: blks s.p0).Nodup := by
      have : (w.heap.size :: d :: s.a0 :: blks s.p0).Nodup := List.nodup_cons.2 ⟨fun hm => absurd (hlt _ hm) (by omega), hap⟩
      exact ((List.Perm.swap d w.heap.size _).trans ((List.Perm.swap s.a0 w.heap.size _).cons d)).nodup_iff.1 this
    exact ((hp.cons s.a0).cons d).nodup_iff.2 hq
  · rw [own_some ht] at hap hlt
    obtain ⟨n1, n2⟩ := List.nodup_cons.1 hap
    obtain ⟨n3, n4⟩ := List.nodup_cons.1 n2
    have hbd : d ≠ s.a0 := fun e => n1 (by rw [← e]; simp)
    refine h'.with0' (hso d hbd) hT (by simp) (fun y hy => ?_) ?_
    · have : y = x := by rw [ht] at hy; exact (Option.some.inj hy).symm
      subst this
      exact (h'.tab1 y ht).frm (own := fun r => r = s.a0) ⟨rfl, rfl, rfl, by simp, fun k _ hk => hso k hk⟩ (fun e => n3 (by rw [← e]; simp)) (fun c hc e => n3 (by rw [← e]; simp [hc]))
    · rw [own_some (x := x) (by exact ht)]
      have hq : (d :: s.a0 :: w.heap.size :: (blks s.p0 ++ x.1 :: blks x.2)).Nodup := by
        have : (w.heap.size :: d :: s.a0 :: (blks s.p0 ++ x.1 :: blks x.2)).Nodup := List.nodup_cons.2 ⟨fun hm => absurd (hlt _ hm) (by omega), hap⟩
        exact ((List.Perm.swap d w.heap.size _).trans ((List.Perm.swap s.a0 w.heap.size _).cons d)).nodup_iff.1 this
      exact (((hp.append_right _).cons s.a0).cons d).nodup_iff.2 hq
theorem DAt.fresh1 {w : World} {d i : Nat} {s : St} {x : Nat × List Pl} (h : DAt w d s) (ht : s.t1 = some x) (hi : x.2[i]? = some none) : DAt ((w.alloc (.map #[] 0)).setCell ⟨x.1, i, none⟩ (.map (some w.heap.size))) d { s with t1 := some (x.1, x.2.set i (some (w.heap.size, []))) } := by
  have hlt := h.own_lt
  have hap := h.apart
  have hp := blks_set_none (l := []) (b := w.heap.size) hi
  have hb : Below w.heap.size w (w.alloc (.map #[] 0)) := (Below.refl _ _).alloc (Nat.le_refl _) _
  have h' := h.below hb
  have hT := (h'.tab1 x ht).fresh (i := i) (map_empty w)
  have hso : ∀ k, k ≠ x.1 → ((w.alloc (.map #[] 0)).setCell ⟨x.1, i, none⟩ (.map (some w.heap.size))).heap[k]? = (w.alloc (.map #[] 0)).heap[k]? := fun k hk => set_block_other _ ⟨x.1, i, none⟩ _ k hk
  rw [own_some ht] at hap hlt
  obtain ⟨n1, n2⟩ := List.nodup_cons.1 hap
  obtain ⟨n3, n4⟩ := List.nodup_cons.1 n2
  obtain ⟨n5, n6, n7⟩ := List.nodup_append.1 n4
  have hbd : d ≠ x.1 := fun e => n1 (by rw [e]; simp)
  have hba : s.a0 ≠ x.1 := fun e => n3 (by rw [e]; simp)
  refine h'.with1 ht (hso d hbd) (h'.tab0.frm (own := fun r => r = x.1) ⟨rfl, rfl, rfl, by simp, fun k _ hk => hso k hk⟩ hba (fun c hc e => n7 c hc x.1 (by simp) e)) hT (by simp) ?_
  have hq : (d :: s.a0 :: (blks s.p0 ++ x.1 :: (w.heap.size :: blks x.2))).Nodup := by
    have h1 : (w.heap.size :: d :: s.a0 :: (blks s.p0 ++ x.1 :: blks x.2)).Nodup := List.nodup_cons.2 ⟨fun hm => absurd (hlt _ hm) (by omega), hap⟩
    have h2 : (d :: s.a0 :: blks s.p0 ++ x.1 :: (w.heap.size :: blks x.2)).Perm (w.heap.size :: (d :: s.a0 :: (blks s.p0 ++ x.1 :: blks x.2))) := by
      have := List.perm_middle (a := w.heap.size) (l₁ := d :: s.a0 :: blks s.p0 ++ [x.1]) (l₂ := blks x.2)
      simpa using this
    have h3 := h2.nodup_iff.2 h1
    simpa using h3
  have := (((hp.cons x.1).append_left (blks s.p0)).cons s.a0).cons d
  simpa using this.nodup_iff.2 hq
theorem St.withT_none {s : St} (ht : s.t1 = none) (ps : List Pl) : s.withT ps = { s with p0 := ps } := by unfold St.withT; rw [ht]
theorem St.withT_some {s : St} {x : Nat × List Pl} (ht : s.t1 = some x) (ps : List Pl) : s.withT ps = { s with t1 := some (x.1, ps) } := by unfold St.withT; rw [ht]
theorem St.tg_none {s : St} (ht : s.t1 = none) : s.tg = (s.a0, s.p0) := by unfold St.tg; rw [ht]
theorem St.tg_some {s : St} {x : Nat × List Pl} (ht : s.t1 = some x) : s.tg = x := by unfold St.tg; rw [ht]
theorem DAt.turnT {w w' : World} {d i b : Nat} {s : St} {l l' : Ents} (h : DAt w d s) (hi : s.tg.2[i]? = some (some (b, l))) (hm : MapAt w' b (mapE l')) (ho : OnlyMap w w' b) : DAt w' d (s.withT (s.tg.2.set i (some (b, l')))) := by
  rcases s.t1_cases with ht | ⟨x, ht⟩
  · rw [St.tg_none ht] at hi ⊢
    rw [St.withT_none ht]
    exact h.turn0 hi hm ho
  · rw [St.tg_some ht] at hi ⊢
    rw [St.withT_some ht]
    exact h.turn1 ht hi hm ho
theorem DAt.freshT {w : World} {d i : Nat} {s : St} (h : DAt w d s) (hi : s.tg.2[i]? = some none) : DAt ((w.alloc (.map #[] 0)).setCell ⟨s.tg.1, i, none⟩ (.map (some w.heap.size))) d (s.withT (s.tg.2.set i (some (w.heap.size, [])))) := by
  rcases s.t1_cases with ht | ⟨x, ht⟩
  · rw [St.tg_none ht] at hi ⊢
    rw [St.withT_none ht]
    exact h.fresh0 hi
  · rw [St.tg_some ht] at hi ⊢
    rw [St.withT_some ht]
    exact h.fresh1 ht hi
theorem St.tg_withT (s : St) (ps : List Pl) : (s.withT ps).tg = (s.tg.1, ps) := by
  rcases s.t1_cases with ht | ⟨x, ht⟩
  · rw [St.tg_none ht, St.withT_none ht, St.tg_none (by exact ht)]
  · rw [St.tg_some ht, St.withT_some ht, St.tg_some (x := (x.1, ps)) rfl]
theorem St.withT_withT (s : St) (ps qs : List Pl) : (s.withT ps).withT qs = s.withT qs := by
  rcases s.t1_cases with ht | ⟨x, ht⟩
  · rw [St.withT_none ht, St.withT_none ht, St.withT_none (by exact ht)]
  · rw [St.withT_some ht, St.withT_some ht, St.withT_some (x := (x.1, ps)) rfl]
theorem DAt.tabT {w : World} {d : Nat} {s : St} (h : DAt w d s) : TabAt w s.tg.1 s.tg.2 ∧ s.tg.1 ∈ s.own d ∧ (∀ b ∈ blks s.tg.2, b ∈ s.own d) ∧ 0 < s.tg.2.length ∧ s.tg.2.length ≤ 1099511627776 := by
  rcases s.t1_cases with ht | ⟨x, ht⟩
  · rw [St.tg_none ht, own_none ht]
    exact ⟨h.tab0, by simp, fun b hb => by simp [hb], h.len0⟩
  · rw [St.tg_some ht, own_some ht]
    exact ⟨h.tab1 x ht, by simp, fun b hb => by simp [hb], h.len1 x ht⟩
end Go.Proofs.YtnoalklbgncajaaDoor.Dct
