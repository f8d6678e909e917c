/- Chapter 09: a list of skips in memory; the walk down its heights. -/
import Derived.Test.YtmlaackdcnpjmaaDoorSm09
import Derived.Test.YtmlaackdcnpjmaaDoorGrowR
namespace Go.Proofs.YtmlaackdcnpjmaaDoor.Skp
open Go Go.RowKit Go.Proofs.YtmlaackdcnpjmaaDoor.Pin Go.Proofs.YtmlaackdcnpjmaaDoor.Flt
def cel (w : World) (b o : Nat) : Option Value := w.cell? ⟨b, o, none⟩
/-- a list of skips: n members; position p (0: the head) in block bl p, as high as ht p, with member mem p -/
structure Sk (w : World) (own : Nat → Prop) (s seed n : Nat) (bl ht : Nat → Nat) (mem : Nat → Sc) : Prop where
  top : w.heap[s]? = some (.cells #[.int .u64 (seed : Int), .pointer (some ⟨bl 0, 0, none⟩), .int .i64 (n : Int)] 58 (0, 0))
  node : ∀ p, p ≤ n → ∃ cs, w.heap[bl p]? = some (.cells cs 64 (0, 0)) ∧ cs.size = 67
  hgt : ∀ p, p ≤ n → cel w (bl p) 2 = some (.int .i64 (ht p : Int))
  mbr : ∀ p, 0 < p → p ≤ n → cel w (bl p) 0 = some (.string (mem p).1) ∧ cel w (bl p) 1 = some (.float .f64 (mem p).2)
  inj : ∀ p q, p ≤ n → q ≤ n → bl p = bl q → p = q
  nes : ∀ p, p ≤ n → bl p ≠ s
  ht0 : ht 0 = 32
  htb : ∀ p, p ≤ n → 1 ≤ ht p ∧ ht p ≤ 32
  lvl : ∀ h, h < 32 → Lvl (cel w) n bl ht h
  owns : own s
  ownb : ∀ p, p ≤ n → own (bl p)
  few : n ≤ 1099511627776
section
variable {w w' : World} {own own' : Nat → Prop} {s seed n : Nat} {bl ht : Nat → Nat} {mem : Nat → Sc}
theorem Sk.lt (h : Sk w own s seed n bl ht mem) {p : Nat} (hp : p ≤ n) : bl p < w.heap.size := by
  obtain ⟨cs, h1, _⟩ := h.node p hp
  exact (Array.getElem?_eq_some_iff.1 h1).1
theorem Sk.slt (h : Sk w own s seed n bl ht mem) : s < w.heap.size := (Array.getElem?_eq_some_iff.1 h.top).1
theorem cel_same {b o : Nat} (h : w'.heap[b]? = w.heap[b]?) : cel w' b o = cel w b o := by unfold cel World.cell?; rw [h]
/-- nothing of it has turned -/
theorem Sk.same (h : Sk w own s seed n bl ht mem) (hs : w'.heap[s]? = w.heap[s]?) (hb : ∀ p, p ≤ n → w'.heap[bl p]? = w.heap[bl p]?) : Sk w' own s seed n bl ht mem where
  top := hs.trans h.top
  node := fun p hp => by
    obtain ⟨cs, h1, h2⟩ := h.node p hp
    exact ⟨cs, (hb p hp).trans h1, h2⟩
  hgt := fun p hp => (cel_same (hb p hp)).trans (h.hgt p hp)
  mbr := fun p h0 hp => ⟨(cel_same (hb p hp)).trans (h.mbr p h0 hp).1, (cel_same (hb p hp)).trans (h.mbr p h0 hp).2⟩
  inj := h.inj
  nes := h.nes
  ht0 := h.ht0
  htb := h.htb
  lvl := fun k hk => (h.lvl k hk).same fun _ hp _ _ => cel_same (hb _ hp)
  owns := h.owns
  ownb := h.ownb
  few := h.few
theorem Sk.below (h : Sk w own s seed n bl ht mem) (hb : Below w.heap.size w w') : Sk w' own s seed n bl ht mem := h.same (hb.block s h.slt) (fun _ hp => hb.block _ (h.lt hp))
theorem Sk.head (h : Sk w own s seed n bl ht mem) : w.cell? ⟨s, 1, none⟩ = some (.pointer (some ⟨bl 0, 0, none⟩)) := by rw [Lib.cell_of_heap h.top]; rfl
end
/-- what walk hands back: on each height the last that q tells of, and its position -/
def Ways (A K : Array Value) (bl ht : Nat → Nat) (P : Nat) (j : Nat) : Prop :=
  A.size = 32 ∧ K.size = 32 ∧ ∀ h, j ≤ h → h < 32 → ∃ a, Lst ht P h a ∧ A[h]? = some (.pointer (some ⟨bl a, 0, none⟩)) ∧ K[h]? = some (.int .i64 (a : Int))
theorem ways_set {A K : Array Value} {bl ht : Nat → Nat} {P j a : Nat} (h : Ways A K bl ht P (j + 1)) (hj : j < 32) (ha : Lst ht P j a) :
    Ways (A.setIfInBounds j (.pointer (some ⟨bl a, 0, none⟩))) (K.setIfInBounds j (.int .i64 (a : Int))) bl ht P j := by
  obtain ⟨h1, h2, h3⟩ := h
  refine ⟨by simp [h1], by simp [h2], fun i hi h32 => ?_⟩
  by_cases hij : i = j
  · subst hij
    exact ⟨a, ha, by simp [h1, hj], by simp [h2, hj]⟩
  · obtain ⟨b, k1, k2, k3⟩ := h3 i (by omega) h32
    exact ⟨b, k1, by rw [Array.getElem?_setIfInBounds_ne (Ne.symm hij)]; exact k2, by rw [Array.getElem?_setIfInBounds_ne (Ne.symm hij)]; exact k3⟩
theorem Ways.oneA {A K : Array Value} {bl ht : Nat → Nat} {P : Nat} (h : Ways A K bl ht P 0) : A.all (·.oneCell') = true := by
  refine Array.all_eq_true.2 fun i hi => ?_
  obtain ⟨a, _, h1, _⟩ := h.2.2 i (Nat.zero_le _) (by have := h.1; omega)
  obtain ⟨_, e⟩ := Array.getElem?_eq_some_iff.1 h1
  rw [e]; rfl
theorem Ways.oneK {A K : Array Value} {bl ht : Nat → Nat} {P : Nat} (h : Ways A K bl ht P 0) : K.all (·.oneCell') = true := by
  refine Array.all_eq_true.2 fun i hi => ?_
  obtain ⟨a, _, _, h1⟩ := h.2.2 i (Nat.zero_le _) (by have := h.2.1; omega)
  obtain ⟨_, e⟩ := Array.getElem?_eq_some_iff.1 h1
  rw [e]; rfl
/-- a link's two values -/
def LnkV (n : Nat) (bl ht : Nat → Nat) (h p : Nat) (to : Option Addr) (sp : Int) : Prop :=
  (∃ q, p < q ∧ q ≤ n ∧ h < ht q ∧ (∀ r, p < r → r < q → ht r ≤ h) ∧ to = some ⟨bl q, 0, none⟩ ∧ sp = ((q - p : Nat) : Int)) ∨
  ((∀ r, p < r → r ≤ n → ht r ≤ h) ∧ to = none)
theorem Lnk.vals {c : Nat → Nat → Option Value} {n : Nat} {bl ht : Nat → Nat} {h p : Nat} (hl : Lnk c n bl ht h p) : ∃ to sp, c (bl p) (3 + h * 2) = some (.pointer to) ∧ c (bl p) (3 + h * 2 + 1) = some (.int .i64 sp) ∧ LnkV n bl ht h p to sp := by
  rcases hl with ⟨q, a1, a2, a3, a4, a5, a6⟩ | ⟨a1, a2, j, a3⟩
  · exact ⟨_, _, a5, a6, .inl ⟨q, a1, a2, a3, a4, rfl, rfl⟩⟩
  · exact ⟨_, _, a2, a3, .inr ⟨a1, rfl⟩⟩
theorem results_rows {Pr : Program} {fn : Func} {p u : Tmp} {t4 t5 : TypeId} (h : fn.results = #[.cell p t4, .cell u t5]) (tmps : Array Value) (w : World) (g1 g2 : Nat) (A K : Array Value) (n1 n2 : Nat) (e1 e2 : TypeId)
    (hp : tmps.getD p undef = .pointer (some ⟨g1, 0, none⟩)) (hu : tmps.getD u undef = .pointer (some ⟨g2, 0, none⟩)) (hA : w.heap[g1]? = some (.cells A t4 (0, 0))) (hK : w.heap[g2]? = some (.cells K t5 (0, 0)))
    (u1 : Pr.underlying t4 = some (.array n1 e1)) (u2 : Pr.underlying t5 = some (.array n2 e2)) (i1 : (Pr.info? t4).map (·.size) = some A.size) (i2 : (Pr.info? t5).map (·.size) = some K.size) :
    (results fn tmps).run Pr w = .ok (.tuple #[.agg A, .agg K]) w := by
  have hp' : tmps[p]?.getD undef = .pointer (some ⟨g1, 0, none⟩) := by simpa using hp
  have hu' : tmps[u]?.getD undef = .pointer (some ⟨g2, 0, none⟩) := by simpa using hu
  simp [results, h, hp', hu', asAddr, run_loadVar_row w g1 t4 t4 A (0, 0) _ hA u1 rfl i1, run_loadVar_row w g2 t5 t5 K (0, 0) _ hK u2 rfl i2, Result.andThen]
theorem two_new (w : World) (o1 o2 : Obj) : ((w.alloc o1).alloc o2).heap[w.heap.size]? = some o1 ∧ ((w.alloc o1).alloc o2).heap[w.heap.size + 1]? = some o2 :=
  ⟨(Lib.alloc_old _ _ _ (by simp)).trans (heap_alloc_new w _), by have := heap_alloc_new (w.alloc o1) o2; simpa using this⟩
theorem ways_init {A K : Array Value} {bl ht : Nat → Nat} {P : Nat} (h1 : A.size = 32) (h2 : K.size = 32) : Ways A K bl ht P 32 := ⟨h1, h2, fun h h1 h2 => by omega⟩
/-- the walk, between two heights -/
structure OutR (w : World) (bl ht : Nat → Nat) (P i j : Nat) (wr : World) : Prop where
  le : i ≤ P
  hi : j ≤ ht i
  arr : ∃ A K, wr.heap[w.heap.size]? = some (.cells A 65 (0, 0)) ∧ wr.heap[w.heap.size + 1]? = some (.cells K 66 (0, 0)) ∧ Ways A K bl ht P j
  old : Below w.heap.size w wr
/-- .., on one -/
structure InR (w : World) (n : Nat) (bl ht : Nat → Nat) (P i h g : Nat) (wr : World) : Prop where
  le : i ≤ P
  hi : h < ht i
  arr : ∃ A K, wr.heap[w.heap.size]? = some (.cells A 65 (0, 0)) ∧ wr.heap[w.heap.size + 1]? = some (.cells K 66 (0, 0)) ∧ Ways A K bl ht P (h + 1)
  old : Below w.heap.size w wr
  lnk : ∃ to sp, wr.heap[g]? = some (.cells #[.pointer to, .int .i64 sp] 61 (0, 0)) ∧ LnkV n bl ht h i to sp
  far : w.heap.size + 2 ≤ g
theorem out_step {w wr W : World} {n : Nat} {bl ht : Nat → Nat} {P i h g : Nat} (hh : h < 32) (hI : InR w n bl ht P i h g wr) (hW : Below wr.heap.size wr W) (hl : Lst ht P h i) :
    ∃ A K a b, W.cell? ⟨w.heap.size, h, none⟩ = some a ∧ W.frozen? ⟨w.heap.size, h, none⟩ = false ∧ W.cell? ⟨w.heap.size + 1, h, none⟩ = some b ∧ W.frozen? ⟨w.heap.size + 1, h, none⟩ = false ∧ Ways A K bl ht P h ∧
      OutR w bl ht P i h ((W.setCell ⟨w.heap.size, h, none⟩ (.pointer (some ⟨bl i, 0, none⟩))).setCell ⟨w.heap.size + 1, h, none⟩ (.int .i64 (i : Int))) := by
  obtain ⟨A, K, a1, a2, a3⟩ := hI.arr
  have b1 := (hW.block _ (Array.getElem?_eq_some_iff.1 a1).1).trans a1
  have b2 := (hW.block _ (Array.getElem?_eq_some_iff.1 a2).1).trans a2
  have hA : h < A.size := by rw [a3.1]; exact hh
  have hK : h < K.size := by rw [a3.2.1]; exact hh
  have hB := hI.old.trans (hW.mono hI.old.size)
  refine ⟨_, _, A[h], K[h], by rw [Lib.cell_of_heap b1]; simp [hA], Lib.frozen_of_heap b1 h, by rw [Lib.cell_of_heap b2]; simp [hK], Lib.frozen_of_heap b2 h, ways_set a3 hh hl, ?_⟩
  have e1 := setCell_eq_setRow W w.heap.size h A _ _ (.pointer (some ⟨bl i, 0, none⟩)) b1
  have c1 : (W.setRow w.heap.size (A.setIfInBounds h (.pointer (some ⟨bl i, 0, none⟩)))).heap[w.heap.size + 1]? = some (.cells K 66 (0, 0)) := (setRow_other _ _ _ _ (by omega)).trans b2
  have e2 := setCell_eq_setRow _ (w.heap.size + 1) h K _ _ (.int .i64 (i : Int)) c1
  rw [e1, e2]
  refine ⟨hI.le, Nat.le_of_lt hI.hi, ⟨_, _, ?_, setRow_heap _ _ _ _ _ _ c1, ways_set a3 hh hl⟩, ?_⟩
  · exact (setRow_other _ _ _ _ (by omega)).trans (setRow_heap _ _ _ _ _ _ b1)
  · rw [← e1] at e2 ⊢
    rw [← e2]
    exact (hB.setCell (p := ⟨w.heap.size, h, none⟩) (Nat.le_refl _) _).setCell (p := ⟨w.heap.size + 1, h, none⟩) (Nat.le_succ _) _
set_option maxHeartbeats 2000000 in
set_option maxRecDepth 100000 in
theorem walk_any {own : Nat → Prop} {s seed n : Nat} {bl ht : Nat → Nat} {mem : Nat → Sc} (F : FuncId) (caps : Array Value) (q : Sc → Bool) (P : Nat) (w : World) (hS : Sk w own s seed n bl ht mem) (hP : P ≤ n) (hq : ∀ p, 0 < p → p ≤ n → (q (mem p) = true ↔ p ≤ P))
    (hcf : ∀ W m, (callFunc F (#[scV m] ++ caps)).run Tryd.prog W = .ok (.enter F (#[scV m] ++ caps)) W) (hf : ∀ W m, Below w.heap.size w W → Calls Tryd.prog F (#[scV m] ++ caps) W fun e W' => e = .returned (.bool (q m)) ∧ Below W.heap.size W W') :
    Calls Tryd.prog 28 #[.pointer (some ⟨s, 0, none⟩), .func (.func F) #[] caps] w fun e w' => (∃ A K, e = .returned (.tuple #[.agg A, .agg K]) ∧ Ways A K bl ht P 0) ∧ Below w.heap.size w w' := by
  have HS := Lib.hid hS
  have HP := Lib.hid hP
  have HQ := Lib.hid hq
  have HF := Lib.hid hf
  have HCL := Lib.hid hcf
  have hhd := hS.head
  have hsl := hS.slt
  clear hS hP hq hf hcf
  go_enter Tryd.func28, Tryd.ntmps28
  go_wp2_with fail
  go_loopw [6, 7, 8] (fun x k hh wr => ∃ (i j : Nat) (z : Int), x = .pointer (some ⟨bl i, 0, none⟩) ∧ k = .int .i64 (i : Int) ∧ hh = .int .i64 z ∧ Hid (z = (j : Int) - 1) ∧ Hid (OutR w bl ht P i j wr)) (fun _ _ hh _ => (intOf hh + 1).toNat)
  case atStart =>
    exact ⟨0, 32, 31, rfl, rfl, rfl, Lib.hid (by omega), Lib.hid ⟨Nat.zero_le _, by rw [HS.out.ht0]; omega, ⟨_, _, (two_new w _ _).1, (two_new w _ _).2, ways_init (by rfl) (by rfl)⟩, ((Below.refl _ w).alloc (Nat.le_refl _) _).alloc (by simp) _⟩⟩
  case round =>
    obtain ⟨i, j, z, rfl, rfl, rfl, HZ, HO⟩ := hrel
    cases j with
    | zero =>
      obtain rfl : z = -1 := by have := HZ.out; omega
      obtain ⟨A, K, hA, hK, hW⟩ := HO.out.arr
      have HA := Lib.hid hA
      have HK := Lib.hid hK
      have HWy := Lib.hid hW
      have HOL := Lib.hid HO.out.old
      clear hA hK hW HO HZ
      go_wp2_with fail
      have HA1 : Hid (∀ W, Grow.Grows wr W → W.heap[w.heap.size]? = some (.cells A 65 (0, 0))) := Lib.hid (fun W hR => hR.block HA.out)
      have HK1 : Hid (∀ W, Grow.Grows wr W → W.heap[w.heap.size + 1]? = some (.cells K 66 (0, 0))) := Lib.hid (fun W hR => hR.block HK.out)
      have ha1 : A.all (·.oneCell') = true := HWy.out.oneA
      have hk1 : K.all (·.oneCell') = true := HWy.out.oneK
      have HA2 := Lib.hid ha1
      have HK2 := Lib.hid hk1
      clear ha1 hk1
      refine Grow.wp_region_grow [fun v _ => v = .agg A, fun v _ => v = .agg K, fun _ _ => True, fun _ _ => True] [[], [], [0], [1]] (by kernel_rfl) (by kernel_rfl) ?_ ?_ ?_
      · intro V hV
        simp only [List.mem_cons, List.not_mem_nil, or_false] at hV
        rcases hV with rfl | rfl | rfl | rfl
        all_goals exact fun _ _ _ h _ => h
      · refine Grow.gGoals.load_row rfl 65 (.tmp 4) rfl w.heap.size 65 A 32 _ (fun _ => rfl) HA1.out Tryd.underlying65 (by rw [HWy.out.1]; kernel_rfl) Grow.Grows.refl (fun _ => rfl) ?_
        refine Grow.gGoals.load_row rfl 66 (.tmp 5) rfl (w.heap.size + 1) 66 K 32 _ (fun _ => rfl) HK1.out Tryd.underlying66 (by rw [HWy.out.2.1]; kernel_rfl) Grow.Grows.refl (fun _ => rfl) ?_
        refine Grow.gGoals.same_row rfl 65 (.tmp 4) (.tmp 55) rfl w.heap.size 65 A 0 (fun _ => rfl) (fun _ => rfl) (fun u w' hF => hF.1) HA1.out (by rw [HWy.out.1]; kernel_rfl) HA2.out Grow.Grows.refl (fun _ => trivial) ?_
        exact Grow.gGoals.same_row rfl 66 (.tmp 5) (.tmp 56) rfl (w.heap.size + 1) 66 K 1 (fun _ => rfl) (fun _ => rfl) (fun u w' hF => hF.1) HK1.out (by rw [HWy.out.2.1]; kernel_rfl) HK2.out Grow.Grows.refl (fun _ => trivial) .nil
      · intro w' hR
        have HB := Lib.hid (HOL.out.trans (hR.mono HOL.out.size))
        have HA3 := Lib.hid (HA1.out w' hR)
        have HK3 := Lib.hid (HK1.out w' hR)
        clear hR
        refine .cons (fun x0 f0 => ?_)
        refine .cons (fun x1 f1 => ?_)
        refine .cons (fun x2 f2 => ?_)
        refine .cons (fun x3 f3 => ?_)
        refine .nil ?_
        subst f0 f1
        clear f2 f3
        go_simp
        go_wp2_with fail
        refine bodyPost_ret (results_rows (p := 4) (u := 5) (t4 := 65) (t5 := 66) rfl _ _ w.heap.size (w.heap.size + 1) A K 32 32 _ _ rfl rfl HA3.out HK3.out Tryd.underlying65 Tryd.underlying66 (by rw [HWy.out.1]; kernel_rfl) (by rw [HWy.out.2.1]; kernel_rfl)) rfl ?_
        exact ⟨⟨A, K, rfl, HWy.out⟩, HB.out⟩
    | succ h =>
      obtain rfl : z = (h : Int) := by have := HZ.out; omega
      have hlow : (0 : Int) ≤ (h : Int) := by omega
      have hh32 : h < 32 := by have h1 := HO.out.hi; have h2 := (HS.out.htb i (Nat.le_trans HO.out.le HP.out)).2; omega
      obtain ⟨to, sp, c1, c2, hlv⟩ := (HS.out.lvl h hh32 i (Nat.le_trans HO.out.le HP.out) (by have := HO.out.hi; omega)).vals
      have c1' : wr.cell? ⟨bl i, 3 + h * 2, none⟩ = some (.pointer to) := (HO.out.old.cell (p := ⟨bl i, _, none⟩) (HS.out.lt (Nat.le_trans HO.out.le HP.out))).trans c1
      have c2' : wr.cell? ⟨bl i, 3 + h * 2 + 1, none⟩ = some (.int .i64 sp) := (HO.out.old.cell (p := ⟨bl i, _, none⟩) (HS.out.lt (Nat.le_trans HO.out.le HP.out))).trans c2
      have HLV := Lib.hid hlv
      have HC1 := Lib.hid c1
      have HC2 := Lib.hid c2
      clear c1 c2 hlv
      go_wp2_with fail
      have HI0 : Hid (InR w n bl ht P i h wr.heap.size (wr.alloc (.cells #[.pointer to, .int .i64 sp] 61))) := Lib.hid ⟨HO.out.le, by have := HO.out.hi; omega, by
        obtain ⟨A, K, a1, a2, a3⟩ := HO.out.arr
        exact ⟨A, K, (Lib.alloc_old _ _ _ (Array.getElem?_eq_some_iff.1 a1).1).trans a1, (Lib.alloc_old _ _ _ (Array.getElem?_eq_some_iff.1 a2).1).trans a2, a3⟩, HO.out.old.alloc HO.out.old.size _, ⟨to, sp, heap_alloc_new wr _, HLV.out⟩, by
        obtain ⟨A, K, a1, a2, a3⟩ := HO.out.arr
        have := (Array.getElem?_eq_some_iff.1 a2).1
        omega⟩
      clear c1' c2' HC1 HC2 HLV HZ HO
      go_loopw [6, 7, 9] (fun x k t wr => ∃ (i g : Nat), x = .pointer (some ⟨bl i, 0, none⟩) ∧ k = .int .i64 (i : Int) ∧ t = .pointer (some ⟨g, 0, none⟩) ∧ Hid (InR w n bl ht P i h g wr)) (fun _ k _ _ => n - (intOf k).toNat)
      case atStart => exact ⟨i, wr.heap.size, rfl, rfl, rfl, HI0⟩
      case round =>
        obtain ⟨i, g, rfl, rfl, rfl, HI⟩ := hrel
        clear HI0
        obtain ⟨to, sp, hg, hlv⟩ := HI.out.lnk
        have t0 : wr.cell? ⟨g, 0, none⟩ = some (.pointer to) := by rw [Lib.cell_of_heap hg]; rfl
        have t1 : wr.cell? ⟨g, 1, none⟩ = some (.int .i64 sp) := by rw [Lib.cell_of_heap hg]; rfl
        have HG := Lib.hid hg
        clear hg
        have HST : Hid (∀ W, Below wr.heap.size wr W → Lst ht P h i → ∃ A K a b, W.cell? ⟨w.heap.size, h, none⟩ = some a ∧ W.frozen? ⟨w.heap.size, h, none⟩ = false ∧ W.cell? ⟨w.heap.size + 1, h, none⟩ = some b ∧ W.frozen? ⟨w.heap.size + 1, h, none⟩ = false ∧ Ways A K bl ht P h ∧
            OutR w bl ht P i h ((W.setCell ⟨w.heap.size, h, none⟩ (.pointer (some ⟨bl i, 0, none⟩))).setCell ⟨w.heap.size + 1, h, none⟩ (.int .i64 (i : Int)))) := Lib.hid (fun W hW hl => out_step hh32 HI.out hW hl)
        rcases hlv with ⟨c, a1, a2, a3, a4, rfl, rfl⟩ | ⟨a1, rfl⟩
        · have hm := HS.out.mbr c (by omega) a2
          have hm0 : wr.cell? ⟨bl c, 0, none⟩ = some (.string (mem c).1) := (HI.out.old.cell (p := ⟨bl c, _, none⟩) (HS.out.lt a2)).trans hm.1
          have hm1 : wr.cell? ⟨bl c, 1, none⟩ = some (.float .f64 (mem c).2) := (HI.out.old.cell (p := ⟨bl c, _, none⟩) (HS.out.lt a2)).trans hm.2
          have HQC := Lib.hid (HQ.out c (by omega) a2)
          have HCF := Lib.hid (HF.out wr (mem c) HI.out.old)
          have HA1 := Lib.hid a1
          have HA2 := Lib.hid a2
          have HA3 := Lib.hid a3
          have HA4 := Lib.hid a4
          have hcl := HCL.out wr (mem c)
          clear hm a1 a2 a3 a4
          go_wp2_with fail
          refine HCF.out.mono ?_
          rintro e w3 ⟨rfl, hb3⟩
          cases hqc : q (mem c) with
          | false =>
            have HL : Hid (Lst ht P h i) := Lib.hid ⟨HI.out.le, HI.out.hi, fun r r1 r2 => HA4.out r r1 (by
              rcases Nat.lt_or_ge r c with k | k
              · exact k
              · have := HQC.out.2 (Nat.le_trans k r2)
                rw [hqc] at this
                cases this)⟩
            obtain ⟨A, K, x, y, e1, e2, e3, e4, hW, hO⟩ := HST.out w3 hb3 HL.out
            have HO := Lib.hid hO
            clear hW hO HST hqc hcl hb3
            go_wp2_with fail
            exact ⟨⟨i, h, (h : Int) - 1, rfl, rfl, rfl, Lib.hid rfl, HO⟩, by simp [intOf]⟩
          | true =>
            have HcP : Hid (c ≤ P) := Lib.hid (HQC.out.1 hqc)
            have HB3 := Lib.hid hb3
            have s0 : w3.cell? ⟨g, 0, none⟩ = some (.pointer (some ⟨bl c, 0, none⟩)) := (hb3.cell (p := ⟨g, _, none⟩) (Array.getElem?_eq_some_iff.1 HG.out).1).trans t0
            have s1 : w3.cell? ⟨g, 1, none⟩ = some (.int .i64 ((c - i : Nat) : Int)) := (hb3.cell (p := ⟨g, _, none⟩) (Array.getElem?_eq_some_iff.1 HG.out).1).trans t1
            obtain ⟨to, sp, c1, c2, hlv⟩ := (HS.out.lvl h hh32 c HA2.out HA3.out).vals
            have hcb := HI.out.old.trans (hb3.mono HI.out.old.size)
            have c1' : w3.cell? ⟨bl c, 3 + h * 2, none⟩ = some (.pointer to) := (hcb.cell (p := ⟨bl c, _, none⟩) (HS.out.lt HA2.out)).trans c1
            have c2' : w3.cell? ⟨bl c, 3 + h * 2 + 1, none⟩ = some (.int .i64 sp) := (hcb.cell (p := ⟨bl c, _, none⟩) (HS.out.lt HA2.out)).trans c2
            have hclt : bl c < w3.heap.size := Nat.lt_of_lt_of_le (HS.out.lt HA2.out) hcb.size
            have HLV := Lib.hid hlv
            have HCB := Lib.hid hcb
            have HC1 := Lib.hid c1
            have HC2 := Lib.hid c2
            have hcast : ((c - i : Nat) : Int) = (c : Int) - (i : Int) := by have := HA1.out; omega
            rw [hcast] at s1
            have hsum : IntKind.i64.wrap ((i : Int) + ((c : Int) - (i : Int))) = (c : Int) := by rw [IntKind.wrap_i64]; have := HS.out.few; have := HA2.out; omega
            clear hqc hcl hb3 c1 c2 hlv hcb hcast HST
            go_wp2_with fail
            refine wp_region_q [0,1,0,0,1,0,0,0] (by kernel_rfl) (by kernel_rfl) ?_
            (refine q_pure_n rfl (fun K hK => ?_); go_simp; refine hK _ _ ?_; clear hK K)
            (refine q_read_n rfl (fun K hK => ?_); go_simp; refine hK _ _ ?_; clear hK K)
            (refine q_pure_n rfl (fun K hK => ?_); go_simp; refine hK _ _ ?_; clear hK K)
            (refine q_pure_n rfl (fun K hK => ?_); go_simp; refine hK _ _ ?_; clear hK K)
            (refine q_read_n rfl (fun K hK => ?_); go_simp; refine hK _ _ ?_; clear hK K)
            (refine q_pure_n rfl (fun K hK => ?_); go_simp; refine hK _ _ ?_; clear hK K)
            (refine q_pure_n rfl (fun K hK => ?_); go_simp; refine hK _ _ ?_; clear hK K)
            (refine q_pure_n rfl (fun K hK => ?_); go_simp; refine hK _ _ ?_; clear hK K)
            refine q_nil ?_
            intro nq
            go_wp2_with fail
            refine ⟨⟨c, w3.heap.size, rfl, rfl, rfl, Lib.hid ⟨HcP.out, HA3.out, ?_, below_drewN (HCB.out.alloc HCB.out.size _) _, ⟨to, sp, heap_alloc_new w3 _, HLV.out⟩, ?_⟩⟩, by have := HA1.out; have := HA2.out; simp [intOf]; omega⟩
            · obtain ⟨A, K, b1, b2, b3⟩ := HI.out.arr
              have k1 := (Array.getElem?_eq_some_iff.1 b1).1
              have k2 := (Array.getElem?_eq_some_iff.1 b2).1
              exact ⟨A, K, (Lib.alloc_old _ _ _ (Nat.lt_of_lt_of_le k1 HB3.out.size)).trans ((HB3.out.block _ k1).trans b1), (Lib.alloc_old _ _ _ (Nat.lt_of_lt_of_le k2 HB3.out.size)).trans ((HB3.out.block _ k2).trans b2), b3⟩
            · obtain ⟨A, K, b1, b2, b3⟩ := HI.out.arr
              have k2 := (Array.getElem?_eq_some_iff.1 b2).1
              have := HB3.out.size
              omega
        · have HL : Hid (Lst ht P h i) := Lib.hid ⟨HI.out.le, HI.out.hi, fun r r1 r2 => a1 r r1 (Nat.le_trans r2 HP.out)⟩
          obtain ⟨A, K, x, y, e1, e2, e3, e4, hW, hO⟩ := HST.out wr (Below.refl _ _) HL.out
          have HO := Lib.hid hO
          clear a1 hW hO HST
          go_wp2_with fail
          exact ⟨⟨i, h, (h : Int) - 1, rfl, rfl, rfl, Lib.hid rfl, HO⟩, by simp [intOf]⟩
end Go.Proofs.YtmlaackdcnpjmaaDoor.Skp
