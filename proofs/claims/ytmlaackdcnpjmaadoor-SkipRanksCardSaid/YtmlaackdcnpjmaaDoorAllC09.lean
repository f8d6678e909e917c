/- Chapter 09: all: the members in their order, in memory of its own. -/
import Derived.Maps.OwnIn
import Derived.Maps.AppendAt
import Derived.Test.YtmlaackdcnpjmaaDoorAll09
namespace Go.Proofs.YtmlaackdcnpjmaaDoor.Skp
open Go Go.RowKit Go.Proofs.YtmlaackdcnpjmaaDoor.Pin Go.Proofs.YtmlaackdcnpjmaaDoor.Flt
attribute [local go_sem] Oper.semAt_some
attribute [local go_sem high] run_store_F
theorem all_fn (s : Nat) (w : World) : Calls Tryd.prog 23 #[.pointer (some ⟨s, 0, none⟩)] w fun e w' => e = .returned (.func (.func 35) #[] #[.pointer (some ⟨w.heap.size, 0, none⟩)]) ∧ w' = w.alloc (.cells #[.pointer (some ⟨s, 0, none⟩)] 27) := by
  go_enter Tryd.func23, Tryd.ntmps23
  go_wp2_with fail
  go_ret
  exact ⟨rfl, rfl⟩
abbrev flatS (l : List Sc) : List Value := l.flatMap fun m => [.string m.1, .float .f64 m.2]
/-- what all has gathered -/
def AlI (w : World) (B : Nat) (pre : List Sc) (W : World) : Prop :=
  (∃ v, Boxed W B 23 v ∧ W.ownsRow w.heap.size 31 2 v pre.length (flatS pre) ∧ (v = .slice none 0 0 ↔ pre = [])) ∧ Below w.heap.size w W ∧ Boxed W w.heap.size 3 (.int .i64 1073741824) ∧ w.heap.size + 3 ≤ W.heap.size
theorem alI_own (w : World) (B n : Nat) (hn : w.heap.size ≤ n) : OwnFrom n (AlI w B) :=
  OwnFrom.and (Own.from (holdsRow_own _ B _ _ 2 (fun pre : List Sc => pre.length) flatS (fun pre v => v = .slice none 0 0 ↔ pre = [])) _) (OwnFrom.and (ownFrom_below (Nat.le_refl _) hn) (OwnFrom.and (Own.from (boxed_own _ _ (fun _ => .int .i64 1073741824)) _) (fun _ _ _ _ h hg _ => Nat.le_trans h hg.size)))
theorem flat_at : ∀ (l : List Sc) (j : Nat) (h : j < l.length), (flatS l)[j * 2]? = some (.string l[j].1) ∧ (flatS l)[j * 2 + 1]? = some (.float .f64 l[j].2)
  | x :: l, 0, _ => by simp [flatS]
  | x :: l, j + 1, h => by
    have ih := flat_at l j (by simpa using h)
    rw [show (j + 1) * 2 = j * 2 + 2 by omega, show j * 2 + 2 + 1 = j * 2 + 1 + 2 by omega]
    simpa [flatS] using ih
theorem addr_add (g k : Nat) : (⟨g, 0, none⟩ : Addr).add k = ⟨g, k, none⟩ := by
  unfold Addr.add
  by_cases h : k = 0 <;> simp [h]
theorem mems_row {W : World} {n e : Nat} {v : Value} {l : List Sc} (h : W.ownsRow n e 2 v l.length (flatS l)) : Mems W (fun r => n ≤ r) v l := by
  rcases id h.2 with ⟨rfl, h0⟩ | ⟨g, cap, cur, rfl, hbg, hg, _⟩
  · refine ⟨none, 0, ?_, fun k => ?_⟩
    · rw [h0]
    · omega
  · refine ⟨some ⟨g, 0, none⟩, cap, rfl, fun _ => ⟨g, rfl, hbg, (Array.getElem?_eq_some_iff.1 hg).1, fun j hj => ⟨[.string l[j].1, .float .f64 l[j].2], rfl, rfl, fun i u hi => ?_⟩⟩⟩
    have hc := h.cells (g := g) rfl
    have h1 := hc _ _ (flat_at l j hj).1
    have h2 := hc _ _ (flat_at l j hj).2
    rw [addr_add] at h1 h2
    match i, hi with
    | 0, hi => cases hi; exact h1
    | 1, hi => cases hi; exact h2
    | k + 2, hi => simp at hi
theorem mems_memsAt {W : World} {ok : Nat → Prop} {v : Value} {l : List Sc} (h : Mems W ok v l) : MemsAt W W.heap.size v l := by
  obtain ⟨A, c, e, h⟩ := mems_at h
  refine ⟨A, c, e, fun h0 => ?_⟩
  obtain ⟨r, e1, _, h2, h3⟩ := h h0
  refine ⟨r, 0, e1, h2, fun j hj => ?_⟩
  rw [Nat.zero_add]
  exact h3 j hj
def Elem (W : World) (b : Nat) (x : Sc) : Prop := W.heap[b]? = some (.cells #[.string x.1, .float .f64 x.2] 31 (0, 0))
theorem elem_own (b : Nat) (x : Sc) : Own (fun (_ : Unit) W => Elem W b x) := fun s X Y row hs hg hrow =>
  (hg.block b (Array.getElem?_eq_some_iff.1 hs).1 (fun e' => by obtain ⟨o, ho, hc⟩ := hrow b e'.symm; rw [show X.heap[b]? = _ from hs] at ho; cases ho; cases hc)).trans hs
set_option maxHeartbeats 2000000 in
set_option maxRecDepth 100000 in
theorem all_any {own : Nat → Prop} {s : Nat} {L : List Sc} (w : World) (hL : SkL w own s L) (hlen : L.length < 1073741824) :
    Calls Tryd.prog 10 #[.pointer (some ⟨s, 0, none⟩), .int .i64 1073741824] w fun e w' => (∃ v, e = .returned v ∧ Mems w' (fun r => w.heap.size ≤ r) v L) ∧ Below w.heap.size w w' := by
  have HL := Lib.hid hL
  have HF := Lib.hid (fun W => all_fn s W)
  clear hL
  rw [← callsIn_wide (n := 9)]
  refine callsIn_of_wp_marks Tryd.func10 rfl trivial ?_ rfl
  simp only [Tryd.ntmps10, List.size_toArray, List.length_cons, List.length_nil, Nat.reduceAdd, Nat.reduceSub, Array.replicate_succ, Array.replicate_zero, List.push_toArray, List.append_toArray, List.nil_append, List.cons_append]
  gi_wp2_with (refine ⟨trivial, ?_⟩; refine (callsIn_wide.2 (HF.out _)).mono ?_; rintro e w' ⟨rfl, rfl⟩)
  have HB0 : Hid (Below w.heap.size w (((w.alloc (.cells #[.int .i64 1073741824] 3)).alloc (.cells #[.slice none 0 0] 23)).alloc (.cells #[.pointer (some ⟨s, 0, none⟩)] 27))) := Lib.hid ((((Below.refl _ w).alloc (Nat.le_refl _) _).alloc (by simp) _).alloc (by simp; omega) _)
  have h0 : AlI w (w.heap.size + 1) [] (((w.alloc (.cells #[.int .i64 1073741824] 3)).alloc (.cells #[.slice none 0 0] 23)).alloc (.cells #[.pointer (some ⟨s, 0, none⟩)] 27)) := by
    refine ⟨⟨.slice none 0 0, ?_, World.ownsRow_nil _ _ _ _, by simp⟩, HB0.out, ((Boxed.new w _ _).alloc _).alloc _, by simp⟩
    have h := Boxed.new (w.alloc (.cells #[.int .i64 1073741824] 3)) 23 (.slice none 0 0)
    rw [World.size_alloc] at h
    exact h.alloc _
  have h1 : Boxed (((w.alloc (.cells #[.int .i64 1073741824] 3)).alloc (.cells #[.slice none 0 0] 23)).alloc (.cells #[.pointer (some ⟨s, 0, none⟩)] 27)) (w.heap.size + 1 + 1) 27 (.pointer (some ⟨s, 0, none⟩)) := by
    have h := Boxed.new ((w.alloc (.cells #[.int .i64 1073741824] 3)).alloc (.cells #[.slice none 0 0] 23)) 27 (.pointer (some ⟨s, 0, none⟩))
    rwa [World.size_alloc, World.size_alloc] at h
  have hsz : (((w.alloc (.cells #[.int .i64 1073741824] 3)).alloc (.cells #[.slice none 0 0] 23)).alloc (.cells #[.pointer (some ⟨s, 0, none⟩)] 27)).heap.size = w.heap.size + 3 := by simp
  have hL0 := HL.out.below HB0.out
  have hB0 := HB0.out
  clear HB0
  obtain ⟨W0, hW0⟩ : ∃ W0, (((w.alloc (.cells #[.int .i64 1073741824] 3)).alloc (.cells #[.slice none 0 0] 23)).alloc (.cells #[.pointer (some ⟨s, 0, none⟩)] 27)) = W0 := ⟨_, rfl⟩
  rw [hW0] at h0 h1 hsz hL0 hB0 ⊢
  clear hW0
  have hbx : W0.cell? ⟨w.heap.size + 1, 0, none⟩ = some (.slice none 0 0) := by
    obtain ⟨⟨v, h, _, e⟩, _⟩ := h0
    rw [h.cell, e.2 rfl]
  refine wpIn_rangeFunc_ownH rfl (by decide) (gf := 35) (lb := #[.pointer (some ⟨w.heap.size + 1 + 1, 0, none⟩)]) rfl trivial (enters_of Tryd.func35 (by kernel_rfl) rfl)
    (all1_stops 8 (by decide) (w.heap.size + 1 + 1) (w.heap.size + 1) W0 hL0 h1.cell hbx (by omega)) kpA_t (kpA_b (by omega)) (Below.refl _ _) (fun _ => rfl)
    (AlI w (w.heap.size + 1)) (fun _ _ _ => False) (alI_own w _ _ (by omega)) (fun _ _ _ _ _ hs _ _ => hs) h0
    (fun x a' W => ∃ b, W0.heap.size ≤ b ∧ Elem W b x ∧ a' = { tmps := #[.pointer (some ⟨s, 0, none⟩), .int .i64 1073741824, undef, .pointer (some ⟨w.heap.size, 0, none⟩), .slice none 0 0, .pointer (some ⟨w.heap.size + 1, 0, none⟩), .pointer (some ⟨b, 0, none⟩), .pointer (some ⟨s, 0, none⟩), .func (.func 35) #[] #[.pointer (some ⟨w.heap.size + 1 + 1, 0, none⟩)], scV x, undef, undef, undef, undef, undef, undef, undef, undef, undef], defers := [] })
    ?hax ?assign ?body ?done ?stop
  case hax =>
    rintro x a' u X Y row ⟨b, hb, he, ha⟩ hg hr
    exact ⟨b, hb, elem_own b x u X Y row he hg (fun r e => (hr r e).2), ha⟩
  case assign =>
    rintro l pre x W K hi hK
    have hb : Below w.heap.size w W := hi.2.1
    have hKB : ∀ o : Obj, KpA (w.heap.size + 1) W (W.alloc o) := fun o => by
      obtain ⟨v, hv, _⟩ := hi.1
      refine ⟨by simp, fun k q hk hq hn hin => ⟨Below.heap_alloc W o k (Array.getElem?_eq_some_iff.1 hk).1, fun u hu => hin u ?_⟩⟩
      rw [(hv.alloc o).cell] at hu
      rw [hv.cell, hu]
    have hKF : ∀ o : Obj, KeepsFrom W0.heap.size W (W.alloc o) := fun o => (KeepsOthers.alloc W o).from _
    have hI2 : ∀ o : Obj, AlI w (w.heap.size + 1) pre (W.alloc o) := fun o => (alI_own w (w.heap.size + 1) W.heap.size hb.size).alloc o hi
    have hEl : Elem (W.alloc (.cells #[.string x.1, .float .f64 x.2] 31)) W.heap.size x := World.alloc_heap_new W _
    have hS3 := hi.2.2.2
    gi_wp2
    exact hK _ _ (hKF _) (hKB _) (hI2 _) ⟨W.heap.size, by omega, hEl, rfl⟩
  case body =>
    rintro l pre x a' W hl ⟨rr, hrr⟩ hi ⟨b, hb, he, rfl⟩ hlt
    obtain ⟨⟨v, hv, hrow, hnil⟩, hbl, hmost, hs3⟩ := id hi
    have hc := hv.cell
    have hcm := hmost.cell
    have hx1 : W.cell? ⟨b, 0, none⟩ = some (.string x.1) := by simp [World.cell?, show W.heap[b]? = _ from he]
    have hx2 : W.cell? ⟨b, 1, none⟩ = some (.float .f64 x.2) := by simp [World.cell?, show W.heap[b]? = _ from he]
    obtain ⟨A, cp, rfl⟩ : ∃ A cp, v = .slice A pre.length cp := by
      obtain ⟨A, cp, e, _⟩ := mems_row hrow
      exact ⟨A, cp, e⟩
    have hno : decide ((pre.length : Int) ≥ 1073741824) = false := by simp; omega
    obtain ⟨i0, hi0, hz0, hz1, hz2⟩ := info_parts info_scoreds
    have HV := Lib.hid hv
    have HRW := Lib.hid hrow
    have HBL := Lib.hid hbl
    have HLT := Lib.hid hlt
    have HS3 := Lib.hid hs3
    have HMO := Lib.hid hmost
    have HI0 := Lib.hid hi0
    have HZ0 := Lib.hid hz0
    have HZ1 := Lib.hid hz1
    have HZ2 := Lib.hid hz2
    clear hi hnil hi0 hz0 hz1 hz2 hrow hrr he
    gi_wp2_with (gi_at_builtin; refine wpListIn_append_own_at _ rfl _ _ 23 rfl w.heap.size 31 i0 (.agg #[.string ⟨#[]⟩, .float .f64 0]) 2 24 Tryd.underlying23 HI0.out HZ0.out HZ1.out HZ2.out rfl (by decide) _ _ _ rfl (HRW.out.alloc _) ⟨W.heap.size, 0, none⟩ 1 1 [.string x.1, .float .f64 x.2] rfl rfl ?c1 ?c2 ?c3 ?c4 ?c5 ?c6)
    case c1 => exact new_cells W [.string x.1, .float .f64 x.2] 31
    case c2 => simp [Value.oneCell']
    case c3 => have := HLT.out; unfold maxLen; omega
    case c4 => have := HLT.out; omega
    case c5 => have := HBL.out.size; simp; omega
    case c6 =>
    intro v' w1 hown hgrow hn' hat
    obtain ⟨hv1, hv2, hr2, hk2, hb2⟩ := HV.out.appended (by decide) HRW.out HBL.out.size (by omega) hown hgrow
    obtain ⟨g', cap', rfl⟩ := ownsRow_succ hown
    have hc1 := hv1.cell
    have hf1 := hv1.frozen
    have HV2 := Lib.hid hv2
    have HR2 := Lib.hid hr2
    have HK2 := Lib.hid hk2
    have HB2 := Lib.hid hb2
    have HG2 := Lib.hid hgrow
    have HAT := Lib.hid hat
    clear hv2 hr2 hk2 hb2 hown hgrow hn' hat hv1
    gi_wp2
    have hsz1 : W.heap.size + 1 ≤ w1.heap.size := by have := HG2.out.size; simpa using this
    have hsz2 : (w1.setCell ⟨w.heap.size + 1, 0, none⟩ (.slice (some ⟨g', 0, none⟩) (pre.length + 1) cap')).heap.size = w1.heap.size := by simp
    refine ⟨HK2.out.from _, ⟨by omega, fun k q hk hq hn hin => ?_⟩, ⟨_, HV2.out, ?_, by simp⟩, HBL.out.trans HB2.out, ?_, by have := HS3.out; omega⟩
    · have hkl := (Array.getElem?_eq_some_iff.1 hk).1
      have hno := hin _ HV.out.cell
      refine ⟨?_, fun u hu => ?_⟩
      · rw [Below.heap_setCell _ _ _ k hn, HG2.out.block k (by simp; omega) (fun e => hno e.symm)]
        exact Below.heap_alloc W _ k hkl
      · rw [HV2.out.cell] at hu
        cases hu
        intro e
        rcases HAT.out with h | h
        · exact hno (h.symm.trans e)
        · rw [e] at h
          have := Option.some.inj h
          omega
    · have h := HR2.out
      simpa [flatS] using h
    · exact Boxed.other (((HMO.out.alloc _).kept HG2.out (HMO.out.not_row (by decide) HRW.out))) (by omega) _
  case done =>
    rintro D xs W hD rfl hi hK
    obtain ⟨⟨v, hv, hrow, hnil⟩, hb, _⟩ := hi
    have hc := hv.cell
    gi_wp2
    refine ⟨by simp, .inl ⟨_, _, rfl, run_takeDeferred hK, ?_⟩⟩
    refine ⟨_, results_tmp rfl _ _ _, ?_⟩
    exact ⟨⟨v, rfl, mems_row (ownsRow_putObj hrow _ hK rfl)⟩, hb.trans (belowK_b (w := w) (Nat.le_refl _) W D _ _ (by omega) hK rfl rfl)⟩
  case stop =>
    rintro D c pre W _ _ h _
    exact h.elim
end Go.Proofs.YtmlaackdcnpjmaaDoor.Skp
