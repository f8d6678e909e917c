/- Chapter 07: a second table made; a key put in; the number of keys. -/
import Derived.Test.YtnoalklbgncajaaDoorDu07
namespace Go.Proofs.YtnoalklbgncajaaDoor.Dct
open Go Go.MapKept Go.RowKit Go.Proofs.YtnoalklbgncajaaDoor.Pin Go.Proofs.YtnoalklbgncajaaDoor.Mps Go.Proofs.YtnoalklbgncajaaDoor.Bok Go.Proofs.YtnoalklbgncajaaDoor.Uw Go.Proofs.YtnoalklbgncajaaDoor.Sip
theorem make_tab (w : World) (n : Nat) (hn2 : n ≤ 1099511627776) : ∃ w', (Instr.makeSlice 48 (.int .i64 (n : Int)) (.int .i64 (n : Int))).run Tryd.prog w = .ok (.slice (some ⟨w.heap.size, 0, none⟩) n n) w' ∧ TabAt w' w.heap.size (List.replicate n none) ∧ Below w.heap.size w w' := by
  obtain ⟨i0, hi, hz0, hz1, hz2⟩ := info_parts minfo
  obtain ⟨w', hrun, r1, r2⟩ := run_make_full (P := Tryd.prog) w w.heap.size 48 52 i0 (.map none) 1 Tryd.underlying48 hi hz0 hz1 .i64 .i64 n (by rw [hz2]; omega) (by unfold maxLen; omega) (Nat.le_refl _)
  refine ⟨w', hrun, made_tab (n := n) (by rw [Nat.mul_one, show (Value.map none).cells = #[.map none] from rfl, toList_madeCells_one] at r1; exact r1), (Below.refl w.heap.size w).grown r2 (Nat.le_refl _) (fun b e => by cases e)⟩
theorem blks_nones (n : Nat) : blks (List.replicate n (none : Pl)) = [] := by
  unfold blks
  rw [List.filterMap_eq_nil_iff]
  intro x hx
  rw [List.eq_of_mem_replicate hx]
  rfl
theorem flat_replicate (n : Nat) : flat (List.replicate n (none : Pl)) = [] := flat_nones (fun i hi => by rw [List.length_replicate] at hi; exact List.getElem?_replicate_of_lt hi)
/-- a second table, empty -/
def St.grown (s : St) (g N : Nat) : St := { s with t1 := some (g, List.replicate N none) }
theorem DAt.grow {w w' : World} {d g N : Nat} {s : St} (h : DAt w d s) (ht : s.t1 = none) (hg : g = w.heap.size) (hT : TabAt w' g (List.replicate N none)) (hb : Below w.heap.size w w') (hN : 0 < N) (hN2 : N ≤ 1099511627776) : DAt (w'.setCell ⟨d, 2, none⟩ (.slice (some ⟨g, 0, none⟩) N N)) d (s.grown g N) := by
  have h' := h.below hb
  have hlt := h.own_lt
  have hap := h.apart
  rw [own_none ht] at hap hlt
  have hso : ∀ k, k ≠ d → (w'.setCell ⟨d, 2, none⟩ (.slice (some ⟨g, 0, none⟩) N N)).heap[k]? = w'.heap[k]? := fun k hk => set_block_other _ ⟨d, 2, none⟩ _ k hk
  have hfr : Frm (fun r => r = d) w' (w'.setCell ⟨d, 2, none⟩ (.slice (some ⟨g, 0, none⟩) N N)) := ⟨rfl, rfl, rfl, by simp, fun k _ hk => hso k hk⟩
  obtain ⟨n1, n2⟩ := List.nodup_cons.1 hap
  refine ⟨?_, h'.tab0.frm hfr (fun e => n1 (by rw [← e]; simp)) (fun b hb e => n1 (by rw [← e]; simp [hb])), fun x hx => ?_, ?_, h.len0, fun x hx => ?_⟩
  · rw [heap_setCell_same w' d 2 _ _ _ h'.top]
    simp [St.cells, St.grown, t1V, ht]
  · cases hx
    exact hT.frm hfr (fun e => by have := hlt d (by simp); omega) (fun b hb => by rw [blks_nones] at hb; cases hb)
  · rw [own_some (x := (g, List.replicate N none)) rfl]
    show (d :: s.a0 :: (blks s.p0 ++ g :: blks (List.replicate N none))).Nodup
    rw [blks_nones]
    have h1 : (g :: d :: s.a0 :: blks s.p0).Nodup := List.nodup_cons.2 ⟨fun hm => absurd (hlt _ hm) (by omega), hap⟩
    have h2 : (d :: s.a0 :: (blks s.p0 ++ [g])).Perm (g :: d :: s.a0 :: blks s.p0) := by
      have := List.perm_append_comm (l₁ := d :: s.a0 :: blks s.p0) (l₂ := [g])
      simpa using this
    exact h2.nodup_iff.2 h1
  · cases hx
    simp only [List.length_replicate]
    exact ⟨hN, hN2⟩
theorem grown_ents {s : St} (ht : s.t1 = none) (g N : Nat) : (s.grown g N).ents = s.ents := by
  unfold St.ents St.grown
  rw [ht]
  simp [flat1, flat_replicate]
theorem Inv.grow {s : St} (h : Inv s) (ht : s.t1 = none) (g : Nat) {N : Nat} (hN : Pw N) : Inv (s.grown g N) := by
  have he := grown_ents ht g N
  refine ⟨h.t0, fun x hx => ?_, fun e => (by cases e), fun x hx => ⟨?_, fun i hi => ?_⟩, by rw [he]; exact h.nd, by rw [he]; exact h.cnt, h.pow0, fun x hx => ?_⟩
  · cases hx
    intro i b l hi
    have := List.eq_of_mem_replicate (List.mem_of_getElem? hi)
    cases this
  · show s.mv < s.p0.length
    rw [h.mvn ht]
    obtain ⟨a, _, e⟩ := h.pow0
    rw [e]
    exact Nat.two_pow_pos a
  · have hi : i < s.mv := hi
    rw [h.mvn ht] at hi
    omega
  · cases hx
    rw [List.length_replicate]
    exact hN
theorem Trn.grow {w w' : World} {d g N : Nat} {s : St} (h : DAt w d s) (hI : Inv s) (ht : s.t1 = none) (hg : g = w.heap.size) (hT : TabAt w' g (List.replicate N none)) (hb : Below w.heap.size w w') (hN2 : N ≤ 1099511627776) (hN : Pw N) : Trn w (w'.setCell ⟨d, 2, none⟩ (.slice (some ⟨g, 0, none⟩) N N)) d s (s.grown g N) := by
  have h0 : 0 < N := by obtain ⟨a, _, e⟩ := hN; rw [e]; exact Nat.two_pow_pos a
  refine ⟨h.grow ht hg hT hb h0 hN2, hI.grow ht g hN, rfl, (Frm.of_below hb).set _ _ (fun _ => by simp [St.own]), fun b hbm => ?_⟩
  rw [own_some (x := (g, List.replicate N none)) rfl] at hbm
  rw [own_none ht]
  have hbm : b ∈ d :: s.a0 :: (blks s.p0 ++ g :: blks (List.replicate N none)) := hbm
  rw [blks_nones] at hbm
  rcases List.mem_cons.1 hbm with e | hbm
  · exact .inl (by simp [e])
  rcases List.mem_cons.1 hbm with e | hbm
  · exact .inl (by simp [e])
  rcases List.mem_append.1 hbm with hbm | hbm
  · exact .inl (by simp [hbm])
  · have : b = g := by simpa using hbm
    exact .inr (by omega)
/-- the number of keys -/
theorem DAt.setn {w : World} {d : Nat} {s : St} (h : DAt w d s) (m : Nat) : DAt (w.setCell ⟨d, 4, none⟩ (.int .i64 (m : Int))) d { s with n := m } := by
  refine h.top_turn ?_ (fun k hk => set_block_other _ ⟨d, 4, none⟩ _ k hk) rfl rfl rfl
  rw [heap_setCell_same w d 4 _ _ _ h.top]
  rfl
theorem withT_own0 {d : Nat} {s : St} : (s.withT s.tg.2).own d = s.own d := by
  rcases s.t1_cases with ht | ⟨x, ht⟩
  · rw [St.withT_none ht, St.tg_none ht]
  · rw [St.withT_some ht, St.tg_some ht, own_some ht, own_some (x := (x.1, x.2)) rfl]
theorem put_inv {w : World} {s : St} {k : ByteArray} {v : Int} {ps' : List Pl} (hI : Inv s) (hnew : ∀ y ∈ s.ents, y.1 ≠ k) (hk : k.size ≤ 140737488351232) (h : PutPs w (plc s.sd k s.tg.2.length) k v s.tg.2 ps') : Inv { s.withT ps' with n := s.n + 1 } ∧ (s.withT ps').ents.Perm ((k, v) :: s.ents) := by
  obtain ⟨hf, hl⟩ := put_flat h
  have hnd : ∀ l : Ents, l.Perm ((k, v) :: s.ents) → (l.map (·.1)).Nodup := fun l hp => by
    refine nd_perm hp.symm ?_
    rw [List.map_cons]
    refine List.nodup_cons.2 ⟨fun hm => ?_, hI.nd⟩
    obtain ⟨y, hy, e⟩ := List.mem_map.1 hm
    exact hnew y hy e
  rcases s.t1_cases with ht | ⟨x, ht⟩
  · rw [St.withT_none ht]
    rw [St.tg_none ht] at h hf hl
    have hp : (St.ents { s with p0 := ps' }).Perm ((k, v) :: s.ents) := by
      unfold St.ents
      simp only [ht, flat1, List.append_nil]
      exact hf
    refine ⟨⟨put_ok h hk hI.t0, fun y hy => ?_, fun e => hI.mvn ht, fun y hy => ?_, hnd _ hp, ?_, ?_, fun y hy => ?_⟩, hp⟩
    · exact absurd (show s.t1 = some y from hy) (by rw [ht]; simp)
    · exact absurd (show s.t1 = some y from hy) (by rw [ht]; simp)
    · have h3 := hp.length_eq
      have h4 := hI.cnt
      show s.n + 1 = (St.ents { s with p0 := ps' }).length
      rw [h3, h4]; rfl
    · show Pw ps'.length
      rw [hl]; exact hI.pow0
    · exact absurd (show s.t1 = some y from hy) (by rw [ht]; simp)
  · rw [St.withT_some ht]
    rw [St.tg_some ht] at h hf hl
    have hp : (St.ents { s with t1 := some (x.1, ps') }).Perm ((k, v) :: s.ents) := by
      unfold St.ents
      simp only [ht, flat1]
      exact (hf.append_left _).trans List.perm_middle
    refine ⟨⟨hI.t0, fun y hy => ?_, fun e => (by cases e), fun y hy => hI.mvs x ht, hnd _ hp, ?_, hI.pow0, fun y hy => ?_⟩, hp⟩
    · cases hy; exact put_ok h hk (hI.t1 x ht)
    · have h3 := hp.length_eq
      have h4 := hI.cnt
      show s.n + 1 = (St.ents { s with t1 := some (x.1, ps') }).length
      rw [h3, h4]; rfl
    · cases hy
      show Pw ps'.length
      rw [hl]; exact hI.pow1 x ht
/-- a key put in, and counted -/
theorem Trn.put {w w' : World} {d : Nat} {s : St} {k : ByteArray} {v : Int} {ps' : List Pl} (hI : Inv s) (hnew : ∀ y ∈ s.ents, y.1 ≠ k) (hk : k.size ≤ 140737488351232) (h : PutPs w (plc s.sd k s.tg.2.length) k v s.tg.2 ps') (hD : DAt w' d (s.withT ps')) (hF : Frm (fun b => b = s.tg.1 ∨ b ∈ blks s.tg.2) w w') :
    Trn w (w'.setCell ⟨d, 4, none⟩ (.int .i64 ((s.n + 1 : Nat) : Int))) d s { s.withT ps' with n := s.n + 1 } := by
  have hsub : ∀ b, b = s.tg.1 ∨ b ∈ blks s.tg.2 → b ∈ s.own d := by
    rcases s.t1_cases with ht | ⟨x, ht⟩
    · rw [St.tg_none ht, own_none ht]
      rintro b (rfl | hb)
      · simp
      · have hb : b ∈ blks s.p0 := hb
        simp [hb]
    · rw [St.tg_some ht, own_some ht]
      rintro b (rfl | hb)
      · simp
      · simp [hb]
  refine ⟨hD.setn _, (put_inv hI hnew hk h).1, ?_, (hF.mono (fun b _ hb => hsub b hb)).set _ _ (fun _ => by simp [St.own]), fun b hb => ?_⟩
  · show (s.withT ps').sd = s.sd
    exact St.sd_withT s ps'
  · have hb : b ∈ (s.withT ps').own d := hb
    have := put_own h b hb
    rw [withT_own0] at this
    exact this
end Go.Proofs.YtnoalklbgncajaaDoor.Dct
