import Derived.Test.YtpnmhldaaaemeaaGreatMa3
import Derived.Test.YtpnmhldaaaemeaaGreatMa10
import Derived.Test.YtpnmhldaaaemeaaGreatMa6
/- Chapter 24: copies of items. -/
namespace Go.Proofs.YtpnmhldaaaemeaaGreat.Snp
open Go.RowKit Go.Proofs.YtpnmhldaaaemeaaGreat.Pin
/-- a value's twin -/
structure TVal (w : World) (ok : Nat → Prop) (c : Cl) (v : Va) : Prop where
  list : Tw_texts w ok c.lv v.list
  hash : Tw_pairs w ok c.hv v.hash
  set : Tw_texts w ok c.sv v.set
  zset : Tw_scoreds w ok c.zv v.zset
  stream : Tw_entries w ok c.ev v.stream
theorem TVal.keep {w w' : World} {ok : Nat → Prop} {c : Cl} {v : Va} (h : TVal w ok c v) (hs : w.heap.size ≤ w'.heap.size) (hk : ∀ r, ok r → r < w.heap.size → w'.heap[r]? = w.heap[r]?) : TVal w' ok c v :=
  ⟨h.list.keep (flat_el _) hs hk, h.hash.keep (flat_el _) hs hk, h.set.keep (flat_el _) hs hk, h.zset.keep (flat_el _) hs hk, h.stream.keep tw_en hs hk⟩
theorem TVal.mono {w : World} {ok ok' : Nat → Prop} {c : Cl} {v : Va} (h : TVal w ok c v) (hk : ∀ r, r < w.heap.size → ok r → ok' r) : TVal w ok' c v :=
  ⟨h.list.mono (flat_el _) hk, h.hash.mono (flat_el _) hk, h.set.mono (flat_el _) hk, h.zset.mono (flat_el _) hk, h.stream.mono tw_en hk⟩
theorem TVal.one {w : World} {ok : Nat → Prop} {c : Cl} {v : Va} (h : TVal w ok c v) : c.lv.oneCell' = true ∧ c.hv.oneCell' = true ∧ c.sv.oneCell' = true ∧ c.zv.oneCell' = true ∧ c.ev.oneCell' = true := by
  obtain ⟨_, e1, _⟩ := h.list
  obtain ⟨_, e2, _⟩ := h.hash
  obtain ⟨_, e3, _⟩ := h.set
  obtain ⟨_, e4, _⟩ := h.zset
  obtain ⟨_, e5, _⟩ := h.stream
  rw [e1, e2, e3, e4, e5]
  exact ⟨rfl, rfl, rfl, rfl, rfl⟩
/-- what a twin asks: no list is longer than so many -/
structure Few (v : Va) : Prop where
  list : v.list.length ≤ 1048576
  hash : v.hash.length ≤ 1048576
  set : v.set.length ≤ 1048576
  zset : v.zset.length ≤ 1048576
  stream : v.stream.length ≤ 1048576
  pairs : ∀ y ∈ v.stream, y.pairs.length ≤ 1048576
theorem twin_val (v : Va) (c : Cl) (w : World) (h : ValAt w w.heap.size c v) (hf : Few v) :
    Calls Tryz.prog 28 #[.agg #[.int .u8 (v.kind : Int), .string v.text, c.lv, c.hv, c.sv, c.zv, c.ev, .int .u64 (v.ms : Int), .int .u64 (v.seq : Int)]] w fun e w' =>
      (∃ d : Cl, e = .returned (.agg #[.int .u8 (v.kind : Int), .string v.text, d.lv, d.hv, d.sv, d.zv, d.ev, .int .u64 (v.ms : Int), .int .u64 (v.seq : Int)]) ∧ TVal w' (fun r => w.heap.size ≤ r) d v) ∧ Below w.heap.size w w' := by
  refine (twin_value v c.lv c.hv c.sv c.zv c.ev w h.list hf.list h.hash hf.hash h.set hf.set h.zset hf.zset h.stream hf.stream hf.pairs).mono ?_
  rintro e w' ⟨⟨q0, q1, q2, q3, q4, he, p0, p1, p2, p3, p4⟩, hb⟩
  exact ⟨⟨⟨q0, q1, q2, q3, q4⟩, he, p0, p1, p2, p3, p4⟩, hb⟩
theorem item_cell12 {W : World} {b : Nat} {it : It} {c : Cl} (h : W.heap[b]? = some (iO it c)) :
    W.cell? ⟨b, 0, none⟩ = some (.int .i64 it.db) ∧ W.cell? ⟨b, 1, none⟩ = some (.string it.key) ∧ W.cell? ⟨b, 2, none⟩ = some (.int .u8 (it.val.kind : Int)) ∧ W.cell? ⟨b, 3, none⟩ = some (.string it.val.text) ∧ W.cell? ⟨b, 4, none⟩ = some (c.lv) ∧ W.cell? ⟨b, 5, none⟩ = some (c.hv) ∧ W.cell? ⟨b, 6, none⟩ = some (c.sv) ∧ W.cell? ⟨b, 7, none⟩ = some (c.zv) ∧ W.cell? ⟨b, 8, none⟩ = some (c.ev) ∧ W.cell? ⟨b, 9, none⟩ = some (.int .u64 (it.val.ms : Int)) ∧ W.cell? ⟨b, 10, none⟩ = some (.int .u64 (it.val.seq : Int)) ∧ W.cell? ⟨b, 11, none⟩ = some (.int .i64 it.dead) := by
  refine ⟨?_, ?_, ?_, ?_, ?_, ?_, ?_, ?_, ?_, ?_, ?_, ?_⟩ <;> (rw [Lib.cell_of_heap h]; rfl)
theorem size_item : (Tryz.prog.info? 44).map (·.size) = some 12 := by kernel_rfl
set_option maxHeartbeats 1000000 in
set_option maxRecDepth 100000 in
theorem twin_item (x : It) (c : Cl) (w : World) (h : ValAt w w.heap.size c x.val) (hf : Few x.val) :
    Calls Tryz.prog 13 #[iV x c] w fun e w' => (∃ d : Cl, e = .returned (iV x d) ∧ TVal w' (fun r => w.heap.size ≤ r) d x.val) ∧ Below w.heap.size w w' := by
  obtain ⟨OK, hOK⟩ : ∃ OK : Nat → Prop, OK = (fun r => w.heap.size ≤ r ∧ r ≠ w.heap.size + 1) := ⟨_, rfl⟩
  obtain ⟨Z, hZ⟩ : ∃ Z : Obj, Z = .cells #[.int .i64 0, .string ⟨#[]⟩, .int .u8 0, .string ⟨#[]⟩, .slice none 0 0, .slice none 0 0, .slice none 0 0, .slice none 0 0, .slice none 0 0, .int .u64 0, .int .u64 0, .int .i64 0] 44 := ⟨_, rfl⟩
  obtain ⟨W0, hW0⟩ : ∃ W0, W0 = (w.alloc (iO x c)).alloc Z := ⟨_, rfl⟩
  have HW0 : Hid (Below w.heap.size w W0) := Lib.hid (by rw [hW0]; exact ((Below.refl _ w).alloc (Nat.le_refl _) _).alloc (by simp) _)
  have HSZ : Hid (W0.heap.size = w.heap.size + 2) := Lib.hid (by rw [hW0]; simp)
  have HB2 : Hid (W0.heap[w.heap.size + 1]? = some Z) := Lib.hid (by rw [hW0]; have := heap_alloc_new (w.alloc (iO x c)) Z; simpa using this)
  have HBX : Hid (∀ W, Grow.But (w.heap.size + 1) W0 W → W.heap[w.heap.size]? = some (iO x c)) := Lib.hid (fun W hR => (hR.block _ (by rw [HSZ.out]; omega) (by omega)).trans (by rw [hW0]; exact ((Lib.alloc_old _ _ _ (by simp)).trans (heap_alloc_new w _))))
  have HT0 : Hid (∀ W, Grow.But (w.heap.size + 1) W0 W → Calls Tryz.prog 28 #[.agg #[.int .u8 (x.val.kind : Int), .string x.val.text, c.lv, c.hv, c.sv, c.zv, c.ev, .int .u64 (x.val.ms : Int), .int .u64 (x.val.seq : Int)]] W fun e w' => (∃ d : Cl, e = .returned (.agg #[.int .u8 (x.val.kind : Int), .string x.val.text, d.lv, d.hv, d.sv, d.zv, d.ev, .int .u64 (x.val.ms : Int), .int .u64 (x.val.seq : Int)]) ∧ TVal w' OK d x.val) ∧ Below W.heap.size W w') := Lib.hid (fun W hR => by
    have hsz : w.heap.size + 2 ≤ W.heap.size := by have := hR.size; rw [HSZ.out] at this; omega
    have hb := HW0.out.trans (hR.below (B := w.heap.size) (by omega) (by rw [HSZ.out]; omega))
    refine (twin_val x.val c W ((h.below hb).more (by omega)) hf).mono ?_
    rintro e w' ⟨⟨q, hq, ht⟩, hb'⟩
    exact ⟨⟨q, hq, ht.mono (fun r _ hr => by rw [hOK]; exact ⟨by omega, by omega⟩)⟩, hb'⟩)
  have HOK := Lib.hid hOK
  have HZ := Lib.hid hZ
  have HWW := Lib.hid hW0
  clear hOK h hf hZ
  go_enter Tryz.func13, Tryz.ntmps13
  go_wp2_with fail
  rw [← HZ.out, ← hW0]
  clear hW0
  refine Grow.wp_region_last (b := w.heap.size + 1) [fun v _ => v = .pointer (some ⟨w.heap.size, 0, none⟩), fun v _ => v = .int .i64 x.db, fun v _ => v = .pointer (some ⟨w.heap.size, 1, none⟩), fun v _ => v = .string x.key, fun v _ => v = .pointer (some ⟨w.heap.size, 2, none⟩),
      fun v _ => v = .agg #[.int .u8 (x.val.kind : Int), .string x.val.text, c.lv, c.hv, c.sv, c.zv, c.ev, .int .u64 (x.val.ms : Int), .int .u64 (x.val.seq : Int)],
      fun v W => ∃ d : Cl, v = .agg #[.int .u8 (x.val.kind : Int), .string x.val.text, d.lv, d.hv, d.sv, d.zv, d.ev, .int .u64 (x.val.ms : Int), .int .u64 (x.val.seq : Int)] ∧ TVal W OK d x.val,
      fun v _ => v = .pointer (some ⟨w.heap.size, 11, none⟩), fun v _ => v = .int .i64 x.dead, fun v W => ∃ d : Cl, v = iV x d ∧ TVal W OK d x.val, fun _ W => ∃ d : Cl, W.heap[w.heap.size + 1]? = some (iO x d) ∧ TVal W OK d x.val]
    [[], [0], [], [2], [], [4], [5], [], [7], [1, 3, 6, 8], [0, 1, 2, 3, 4, 5, 6, 7, 8, 9]] (by kernel_rfl) (by kernel_rfl) (by kernel_rfl) ?_ ?_ ?_
  · intro V hV
    have hst1 : ∀ x : Value, Grow.StableB (w.heap.size + 1) (fun v _ => v = x) := fun x v w w' h _ => h
    have hst2 : ∀ f : Cl → Value, Grow.StableB (w.heap.size + 1) (fun v W => ∃ d : Cl, v = f d ∧ TVal W OK d x.val) := fun f v w1 w2 ⟨d, e, h⟩ hr => ⟨d, e, h.keep hr.size (fun r hok hlt => hr.block r hlt (by rw [HOK.out] at hok; exact hok.2))⟩
    simp only [List.length_cons, List.length_nil, Nat.reduceAdd, Nat.reduceSub, List.take_succ_cons, List.take_zero, List.mem_cons, List.not_mem_nil, or_false] at hV
    rcases hV with rfl | rfl | rfl | rfl | rfl | rfl | rfl | rfl | rfl | rfl
    all_goals first | exact hst1 _ | exact hst2 _
  · refine .cons (fun u w' hR hF => Grow.gop_n rfl ?_) ?_
    · go_simp
      exact Grow.But.refl _
    refine .cons (fun u w' hR hF => Grow.gop_n rfl ?_) ?_
    · have f0 : u 0 = .pointer (some ⟨w.heap.size, 0, none⟩) := hF.1
      obtain ⟨e0, e1, e2, e3, e4, e5, e6, e7, e8, e9, e10, e11⟩ := item_cell12 (HBX.out w' hR)
      go_simp
      exact Grow.But.refl _
    refine .cons (fun u w' hR hF => Grow.gop_n rfl ?_) ?_
    · go_simp
      exact Grow.But.refl _
    refine .cons (fun u w' hR hF => Grow.gop_n rfl ?_) ?_
    · have f0 : u 2 = .pointer (some ⟨w.heap.size, 1, none⟩) := hF.1
      obtain ⟨e0, e1, e2, e3, e4, e5, e6, e7, e8, e9, e10, e11⟩ := item_cell12 (HBX.out w' hR)
      go_simp
      exact Grow.But.refl _
    refine .cons (fun u w' hR hF => Grow.gop_n rfl ?_) ?_
    · go_simp
      exact Grow.But.refl _
    refine .cons (fun u w' hR hF => Grow.gop_n rfl ?_) ?_
    · have f0 : u 4 = .pointer (some ⟨w.heap.size, 2, none⟩) := hF.1
      obtain ⟨e0, e1, e2, e3, e4, e5, e6, e7, e8, e9, e10, e11⟩ := item_cell12 (HBX.out w' hR)
      go_simp
      exact Grow.But.refl _
    refine .cons (fun u w' hR hF => Grow.gop_n rfl ?_) ?_
    · have f0 := hF.1
      have hT := HT0.out w' hR
      have f1 : u 5 = .agg #[.int .u8 (x.val.kind : Int), .string x.val.text, c.lv, c.hv, c.sv, c.zv, c.ev, .int .u64 (x.val.ms : Int), .int .u64 (x.val.seq : Int)] := f0
      clear f0 hF
      go_simp
      exact hT.mono (by rintro e w'' ⟨⟨d, rfl, hq⟩, hb⟩; exact ⟨_, rfl, Grow.But.of_grows hb, d, rfl, hq⟩)
    refine .cons (fun u w' hR hF => Grow.gop_n rfl ?_) ?_
    · go_simp
      exact Grow.But.refl _
    refine .cons (fun u w' hR hF => Grow.gop_n rfl ?_) ?_
    · have f0 : u 7 = .pointer (some ⟨w.heap.size, 11, none⟩) := hF.1
      obtain ⟨e0, e1, e2, e3, e4, e5, e6, e7, e8, e9, e10, e11⟩ := item_cell12 (HBX.out w' hR)
      go_simp
      exact Grow.But.refl _
    refine .cons (fun u w' hR hF => Grow.gop_n rfl ?_) ?_
    · have f1 : u 1 = .int .i64 x.db := hF.1
      have f3 : u 3 = .string x.key := hF.2.1
      have f8 : u 8 = .int .i64 x.dead := hF.2.2.2.1
      obtain ⟨d, f6, p⟩ := hF.2.2.1
      have HP := Lib.hid p
      clear hF p
      go_simp
      exact ⟨Grow.But.refl _, d, by simp, HP.out⟩
    refine Grow.gGoals.store ?a1 44 (.tmp 2) (.tmp 12) ?a2 (w.heap.size + 1) 44 12 9 ?a3 ?a4 (by kernel_rfl) (fun w' hR => hR.shape _ _ _ (by rw [HB2.out, HZ.out])) ?a5
    case a1 => rfl
    case a2 => rfl
    case a3 => (intro u; go_simp)
    case a4 => (intro u; go_simp)
    case a5 =>
      intro u w' hR hF
      obtain ⟨d, f0, p0⟩ := hF.2.2.2.2.2.2.2.2.2.1
      obtain ⟨o1, o2, o3, o4, o5⟩ := p0.one
      refine ⟨_, f0, rfl, by simp [one_int, one_str, o1, o2, o3, o4, o5], fun cur hc hs => ⟨Grow.But.row hc (by rw [hs]; rfl), d, setRow_heap _ _ _ _ _ _ hc, p0.keep (by simp [World.setRow]) (fun r hok _ => setRow_other _ _ _ _ (by rw [HOK.out] at hok; exact hok.2))⟩⟩
  · intro w' hR
    have HB3 : Hid (Below w.heap.size w w') := Lib.hid (HW0.out.trans (hR.below (B := w.heap.size) (by omega) (by rw [HSZ.out]; omega)))
    clear hR
    refine .cons (fun x0 f0 => ?_)
    refine .cons (fun x1 f1 => ?_)
    refine .cons (fun x2 f2 => ?_)
    refine .cons (fun x3 f3 => ?_)
    refine .cons (fun x4 f4 => ?_)
    refine .cons (fun x5 f5 => ?_)
    refine .cons (fun x6 f6 => ?_)
    refine .cons (fun x7 f7 => ?_)
    refine .cons (fun x8 f8 => ?_)
    refine .cons (fun x9 f9 => ?_)
    refine .cons (fun x10 f10 => ?_)
    refine .nil ?_
    obtain ⟨d, fz, p0⟩ := f10
    have HF := Lib.hid fz
    have HP := Lib.hid p0
    clear fz p0 f0 f1 f2 f3 f4 f5 f6 f7 f8 f9
    go_simp
    go_wp2_with fail
    refine bodyPost_ret (results_cell_row rfl _ _ (w.heap.size + 1) 44 #[.int .i64 x.db, .string x.key, .int .u8 (x.val.kind : Int), .string x.val.text, d.lv, d.hv, d.sv, d.zv, d.ev, .int .u64 (x.val.ms : Int), .int .u64 (x.val.seq : Int), .int .i64 x.dead] (0, 0) _ rfl HF.out Tryz.underlying44 rfl size_item) rfl ?_
    exact ⟨⟨d, rfl, HP.out.mono (fun r _ hok => by rw [HOK.out] at hok; exact hok.1)⟩, HB3.out⟩
end Go.Proofs.YtpnmhldaaaemeaaGreat.Snp
/- Chapter 24: copies with a spare element behind. Printed by gen_twin24.py items. -/
namespace Go.Proofs.YtpnmhldaaaemeaaGreat.Snp
open Go.RowKit Go.Proofs.YtpnmhldaaaemeaaGreat.Pin

def TwIt (w : World) (ok : Nat → Prop) (x : It) (cs : List Value) : Prop := ∃ d : Cl, cs = icells x d ∧ TVal w ok d x.val
theorem tw_it : ElP TwIt := ⟨fun _ _ _ _ _ ⟨d, e, h⟩ hs hk => ⟨d, e, h.keep hs hk⟩, fun _ _ _ _ _ ⟨d, e, h⟩ hk => ⟨d, e, h.mono hk⟩⟩
theorem winfo_items : (Tryz.prog.info? 44).map (fun i => (i.zero, i.size, i.bytes)) = some (some (.agg #[.int .i64 0, .string ⟨#[]⟩, .int .u8 0, .string ⟨#[]⟩, .slice none 0 0, .slice none 0 0, .slice none 0 0, .slice none 0 0, .slice none 0 0, .int .u64 0, .int .u64 0, .int .i64 0]), 12, 192) := by kernel_rfl
abbrev sp_items : List Value := [.int .i64 0, .string ⟨#[115, 112, 97, 114, 101]⟩, .int .u8 0, .string ⟨#[]⟩, .slice none 0 0, .slice none 0 0, .slice none 0 0, .slice none 0 0, .slice none 0 0, .int .u64 0, .int .u64 0, .int .i64 0]
abbrev Tw_items (w : World) (ok : Nat → Prop) (v : Value) (l : List It) : Prop := TwV 12 TwIt sp_items w ok v l
set_option maxHeartbeats 2000000 in
set_option maxRecDepth 100000 in
theorem twin_items (l : List It) (v : Value) (w : World) (hT : ItemsAt w w.heap.size v l) (hl : l.length ≤ 1048576) (hm : ∀ y ∈ l, Few y.val) :
    Calls Tryz.prog 6 #[v] w fun e w' => (∃ u, e = .returned u ∧ Tw_items w' (fun r => w.heap.size ≤ r) u l) ∧ Below w.heap.size w w' := by
  obtain ⟨A, c, rfl, hT⟩ := hT
  obtain ⟨n, hn⟩ : ∃ n, n = l.length := ⟨_, rfl⟩
  rw [← hn] at hl ⊢
  have HN := Lib.hid hn
  have HT := Lib.hid hT
  have HLM := Lib.hid hm
  clear hm
  obtain ⟨i0, hi, hz0, hz1, hz2⟩ := info_parts winfo_items
  have HI := Lib.hid hi
  have HZ0 := Lib.hid hz0
  have HZ1 := Lib.hid hz1
  have HZ2 := Lib.hid hz2
  clear hi hz0 hz1 hz2 hn hT
  go_enter Tryz.func6, Tryz.ntmps6
  go_wp2_with (at_make; refine wpList_make_own _ rfl _ _ 22 rfl w.heap.size 44 i0 (.agg #[.int .i64 0, .string ⟨#[]⟩, .int .u8 0, .string ⟨#[]⟩, .slice none 0 0, .slice none 0 0, .slice none 0 0, .slice none 0 0, .slice none 0 0, .int .u64 0, .int .u64 0, .int .i64 0]) 12 Tryz.underlying22 HI.out HZ0.out HZ1.out .i64 .i64 _ (n + 1) rfl rfl ?c1 ?c2 ?c3 ?c4 ?_)
  case c1 => omega
  case c2 => rw [HZ2.out]; omega
  case c3 => unfold maxLen; omega
  case c4 => exact Nat.le_refl _
  intro w1 hown1 hgrow1
  obtain ⟨g, hg⟩ : ∃ g, g = w.heap.size := ⟨_, rfl⟩
  rw [← hg] at hown1 ⊢
  have HO1 : Hid (TwA 44 12 TwIt sp_items w.heap.size w1 g 0 n l) := Lib.hid (TwA.zero HN.out (by rw [← hg]; exact hown1))
  have HB1 : Hid (Below w.heap.size w w1) := Lib.hid ((Below.refl _ w).grown hgrow1 (Nat.le_refl _) (fun b e => by cases e))
  have HG := Lib.hid hg
  clear hown1 hgrow1 hg
  go_wp2_with fail
  go_loopw [3, 4] (fun v i wr => ∃ (k : Nat), k ≤ n ∧ i = .int .i64 k ∧ v = .slice (some ⟨g, 0, none⟩) k (n + 1) ∧ Hid (TwA 44 12 TwIt sp_items w.heap.size wr g k n l) ∧ Hid (Below w.heap.size w wr)) (fun _ i _ => n - (intOf i).toNat)
  case atStart => exact ⟨0, by omega, rfl, rfl, HO1, HB1⟩
  case round =>
    obtain ⟨k, hk, rfl, rfl, HO, HW⟩ := hrel
    clear HO1 HB1
    by_cases hlt : (k : Int) < (n : Int)
    · have hkl : k < l.length := by have := HN.out; omega
      obtain ⟨r, o, rfl, hr, hc⟩ := HT.out (by omega)
      obtain ⟨x, hx⟩ : ∃ x, x = l[k] := ⟨_, rfl⟩
      have HX := Lib.hid hx
      have hck := hc k hkl
      rw [← hx] at hck
      obtain ⟨cl, ka, kv⟩ := hck
      have y0 : wr.cell? ⟨r, o + k * 12, none⟩ = some (.int .i64 x.db) := (HW.out.cell (p := ⟨r, _, none⟩) hr).trans (ka 0 _ rfl)
      have y1 : wr.cell? ⟨r, o + k * 12 + 1, none⟩ = some (.string x.key) := (HW.out.cell (p := ⟨r, _, none⟩) hr).trans (ka 1 _ rfl)
      have y2 : wr.cell? ⟨r, o + k * 12 + 2, none⟩ = some (.int .u8 (x.val.kind : Int)) := (HW.out.cell (p := ⟨r, _, none⟩) hr).trans (ka 2 _ rfl)
      have y3 : wr.cell? ⟨r, o + k * 12 + 3, none⟩ = some (.string x.val.text) := (HW.out.cell (p := ⟨r, _, none⟩) hr).trans (ka 3 _ rfl)
      have y4 : wr.cell? ⟨r, o + k * 12 + 4, none⟩ = some (cl.lv) := (HW.out.cell (p := ⟨r, _, none⟩) hr).trans (ka 4 _ rfl)
      have y5 : wr.cell? ⟨r, o + k * 12 + 5, none⟩ = some (cl.hv) := (HW.out.cell (p := ⟨r, _, none⟩) hr).trans (ka 5 _ rfl)
      have y6 : wr.cell? ⟨r, o + k * 12 + 6, none⟩ = some (cl.sv) := (HW.out.cell (p := ⟨r, _, none⟩) hr).trans (ka 6 _ rfl)
      have y7 : wr.cell? ⟨r, o + k * 12 + 7, none⟩ = some (cl.zv) := (HW.out.cell (p := ⟨r, _, none⟩) hr).trans (ka 7 _ rfl)
      have y8 : wr.cell? ⟨r, o + k * 12 + 8, none⟩ = some (cl.ev) := (HW.out.cell (p := ⟨r, _, none⟩) hr).trans (ka 8 _ rfl)
      have y9 : wr.cell? ⟨r, o + k * 12 + 9, none⟩ = some (.int .u64 (x.val.ms : Int)) := (HW.out.cell (p := ⟨r, _, none⟩) hr).trans (ka 9 _ rfl)
      have y10 : wr.cell? ⟨r, o + k * 12 + 10, none⟩ = some (.int .u64 (x.val.seq : Int)) := (HW.out.cell (p := ⟨r, _, none⟩) hr).trans (ka 10 _ rfl)
      have y11 : wr.cell? ⟨r, o + k * 12 + 11, none⟩ = some (.int .i64 x.dead) := (HW.out.cell (p := ⟨r, _, none⟩) hr).trans (ka 11 _ rfl)
      have HTW := Lib.hid (twin_item x cl wr ((kv.below HW.out).more HW.out.size) (by rw [hx]; exact HLM.out _ (List.getElem_mem hkl)))
      clear ka kv
      clear hx hc
      go_wp2_with fail
      refine HTW.out.mono ?_
      rintro e w2 ⟨⟨d, rfl, hq0⟩, hb2⟩
      have HQ := Lib.hid hq0
      obtain ⟨o1, o2, o3, o4, o5⟩ := hq0.one
      clear hq0
      have HO2 := Lib.hid (HO.out.below tw_it hb2)
      have HW2 := Lib.hid (HW.out.trans (hb2.mono HW.out.size))
      clear hb2
      obtain ⟨xs, hown, hnext, -⟩ := HO2.out.next tw_it
      have HC := Lib.hid (hown.alloc (.cells #[.int .i64 x.db, .string x.key, .int .u8 (x.val.kind : Int), .string x.val.text, d.lv, d.hv, d.sv, d.zv, d.ev, .int .u64 (x.val.ms : Int), .int .u64 (x.val.seq : Int), .int .i64 x.dead] 44))
      have HNX := Lib.hid hnext
      clear hown hnext
      go_wp2_with (at_builtin; refine wpList_append_fits _ rfl _ _ 22 rfl w.heap.size 44 i0 12 Tryz.underlying22 HI.out HZ1.out g k (n + 1) xs rfl HC.out ⟨w2.heap.size, 0, none⟩ 1 1 [.int .i64 x.db, .string x.key, .int .u8 (x.val.kind : Int), .string x.val.text, d.lv, d.hv, d.sv, d.zv, d.ev, .int .u64 (x.val.ms : Int), .int .u64 (x.val.seq : Int), .int .i64 x.dead] rfl rfl ?c1 ?c2 ?c3 ?_)
      case c1 => exact new_cells w2 [.int .i64 x.db, .string x.key, .int .u8 (x.val.kind : Int), .string x.val.text, d.lv, d.hv, d.sv, d.zv, d.ev, .int .u64 (x.val.ms : Int), .int .u64 (x.val.seq : Int), .int .i64 x.dead] 44
      case c2 => simp [one_int, one_str, o1, o2, o3, o4, o5]
      case c3 => omega
      intro w3 hown3 hgr3
      have HO3 : Hid (TwA 44 12 TwIt sp_items w.heap.size w3 g (k + 1) n l) := Lib.hid (HNX.out wr w3 _ hkl [.int .i64 x.db, .string x.key, .int .u8 (x.val.kind : Int), .string x.val.text, d.lv, d.hv, d.sv, d.zv, d.ev, .int .u64 (x.val.ms : Int), .int .u64 (x.val.seq : Int), .int .i64 x.dead] HW.out.size HO.out.lt.2 (by rw [← HX.out]; exact ⟨d, rfl, HQ.out⟩) rfl hown3 hgr3)
      have HW3 : Hid (Below w.heap.size w w3) := Lib.hid ((HW2.out.alloc HW2.out.size _).grown hgr3 (by have := HW2.out.size; simp; omega) (fun b e => by have := HO2.out.lt.1; cases e; exact this))
      clear hown3 hgr3
      go_wp2_with fail
      exact ⟨⟨k + 1, by omega, by go_num, by go_num, HO3, HW3⟩, by simp [intOf]; omega⟩
    · have hkn : k = n := by omega
      obtain ⟨xs, hown, -, hend⟩ := HO.out.next tw_it
      have HC := Lib.hid (hown.alloc (.cells #[.int .i64 0, .string ⟨#[115, 112, 97, 114, 101]⟩, .int .u8 0, .string ⟨#[]⟩, .slice none 0 0, .slice none 0 0, .slice none 0 0, .slice none 0 0, .slice none 0 0, .int .u64 0, .int .u64 0, .int .i64 0] 44))
      have HND := Lib.hid hend
      have HK := Lib.hid hkn
      clear hown hend
      go_wp2_with (at_builtin; refine wpList_append_fits _ rfl _ _ 22 rfl w.heap.size 44 i0 12 Tryz.underlying22 HI.out HZ1.out g k (n + 1) xs rfl HC.out ⟨wr.heap.size, 0, none⟩ 1 1 [.int .i64 0, .string ⟨#[115, 112, 97, 114, 101]⟩, .int .u8 0, .string ⟨#[]⟩, .slice none 0 0, .slice none 0 0, .slice none 0 0, .slice none 0 0, .slice none 0 0, .int .u64 0, .int .u64 0, .int .i64 0] rfl rfl ?d1 ?d2 ?d3 ?_)
      case d2 => simp [Value.oneCell']
      intro w3 hown3 hgr3
      have HV : Hid (Tw_items w3 (fun r => w.heap.size ≤ r) (.slice (some ⟨g, 0, none⟩) n (n + 1)) l) := Lib.hid (HND.out w3 _ HK.out rfl (by rw [HK.out]; exact hown3) hgr3)
      have HW3 : Hid (Below w.heap.size w w3) := Lib.hid ((HW.out.alloc HW.out.size _).grown hgr3 (by have := HW.out.size; simp; omega) (fun b e => by have := HO.out.lt.1; cases e; exact this))
      clear hown3 hgr3
      go_wp2_with fail
      go_ret
      exact ⟨⟨_, rfl, HV.out⟩, HW3.out⟩

end Go.Proofs.YtpnmhldaaaemeaaGreat.Snp
/- Chapter 24: plain laws: the order of texts, of floats; sorted lists; a merge. -/
namespace Go.Proofs.YtpnmhldaaaemeaaGreat.Snp
open Go.RowKit Go.Proofs.YtpnmhldaaaemeaaGreat.Pin

theorem bl_irr : ∀ a : List UInt8, Op.bytesLess a a = false
  | [] => rfl
  | a :: x => by simp [Op.bytesLess, bl_irr x]
theorem bl_trans : ∀ {a b c : List UInt8}, Op.bytesLess a b = true → Op.bytesLess b c = true → Op.bytesLess a c = true
  | _, [], _, h, _ => by cases ‹List UInt8› <;> simp [Op.bytesLess] at h
  | _, _ :: _, [], _, h => by simp [Op.bytesLess] at h
  | [], _ :: _, _ :: _, _, _ => rfl
  | a :: x, b :: y, c :: z, h, k => by
    simp only [Op.bytesLess, Bool.or_eq_true, decide_eq_true_eq, Bool.and_eq_true, beq_iff_eq] at h k ⊢
    rcases h with h | ⟨rfl, h⟩
    · rcases k with k | ⟨rfl, k⟩
      · exact .inl (UInt8.lt_trans h k)
      · exact .inl h
    · rcases k with k | ⟨rfl, k⟩
      · exact .inl k
      · exact .inr ⟨rfl, bl_trans h k⟩
theorem bl_tri : ∀ (a b : List UInt8), Op.bytesLess a b = true ∨ a = b ∨ Op.bytesLess b a = true
  | [], [] => .inr (.inl rfl)
  | [], _ :: _ => .inl rfl
  | _ :: _, [] => .inr (.inr rfl)
  | a :: x, b :: y => by
    simp only [Op.bytesLess, Bool.or_eq_true, decide_eq_true_eq, Bool.and_eq_true, beq_iff_eq]
    by_cases h1 : a < b
    · exact .inl (.inl h1)
    by_cases h2 : b < a
    · exact .inr (.inr (.inl h2))
    obtain rfl : a = b := UInt8.le_antisymm (UInt8.not_lt.1 h2) (UInt8.not_lt.1 h1)
    rcases bl_tri x y with h | rfl | h
    · exact .inl (.inr ⟨rfl, h⟩)
    · exact .inr (.inl rfl)
    · exact .inr (.inr (.inr ⟨rfl, h⟩))
theorem text_ext {a b : ByteArray} (h : a.toList = b.toList) : a = b := by
  rw [ByteArray.toList_eq, ByteArray.toList_eq] at h
  cases a with | mk a => cases b with | mk b => exact congrArg _ (Array.toList_inj.1 h)
theorem lts_irr (a : ByteArray) : ¬ LtS a a := by unfold LtS; rw [bl_irr]; simp
theorem lts_trans {a b c : ByteArray} (h : LtS a b) (k : LtS b c) : LtS a c := bl_trans h k
theorem lts_tri (a b : ByteArray) : LtS a b ∨ a = b ∨ LtS b a := by
  rcases bl_tri a.toList b.toList with h | h | h
  · exact .inl h
  · exact .inr (.inl (text_ext h))
  · exact .inr (.inr h)
/-- at most -/
def LeS (a b : ByteArray) : Prop := LtS a b ∨ a = b
theorem les_trans {a b c : ByteArray} (h : LeS a b) (k : LeS b c) : LeS a c := by
  rcases h with h | rfl
  · rcases k with k | rfl
    · exact .inl (lts_trans h k)
    · exact .inl h
  · exact k
theorem les_anti {a b : ByteArray} (h : LeS a b) (k : LeS b a) : a = b := by
  rcases h with h | h
  · rcases k with k | k
    · exact absurd (lts_trans h k) (lts_irr a)
    · exact k.symm
  · exact h
theorem les_of_not {a b : ByteArray} (h : ¬ LeS a b) : LeS b a := by
  rcases lts_tri a b with k | k | k
  · exact absurd (.inl k) h
  · exact absurd (.inr k) h
  · exact .inl k
theorem les_bool (a b : ByteArray) : (Op.bytesLess a.toList b.toList || a.toList == b.toList) = pb (LeS a b) := by
  by_cases h : LeS a b
  · rw [pb_true h]
    rcases h with h | rfl
    · have h' : Op.bytesLess a.toList b.toList = true := h
      rw [h']
      rfl
    · simp
  · rw [pb_false h]
    have h1 : Op.bytesLess a.toList b.toList = false := Bool.eq_false_iff.2 fun e => h (.inl e)
    have h2 : (a.toList == b.toList) = false := Bool.eq_false_iff.2 fun e => h (.inr (text_ext (eq_of_beq e)))
    rw [h1, h2]
    rfl
/-- rising -/
def SrtP (l : List ByteArray) : Prop := l.Pairwise LeS
def NoTwin (l : List ByteArray) (k : Nat) : Prop := ∀ (j : Nat) (h : j < l.length), j < k → ∀ _ : 0 < j, l[j - 1]'(by omega) ≠ l[j]
theorem notwin_succ {l : List ByteArray} {k : Nat} (h : NoTwin l k) (hk : k < l.length) (h1 : ∀ _ : 0 < k, l[k - 1]'(by omega) ≠ l[k]) : NoTwin l (k + 1) := by
  intro j hj hlt
  by_cases e : j = k
  · subst e; exact h1
  · exact h j hj (by omega)
theorem nodup_iff {l : List ByteArray} (h : SrtP l) : NoTwin l l.length ↔ l.Nodup := by
  constructor
  · intro hn
    rw [List.Nodup, List.pairwise_iff_getElem]
    intro i j hi hj hij e
    have hp := List.pairwise_iff_getElem.1 h
    by_cases hq : i = j - 1
    · subst hq
      exact hn j hj hj (by omega) e
    · have h1 := hp i (j - 1) hi (by omega) (by omega)
      have h2 := hp (j - 1) j (by omega) hj (by omega)
      rw [← e] at h2
      exact hn j hj hj (by omega) ((les_anti h2 h1).trans e)
  · intro hn j hj _ h0
    rw [List.Nodup, List.pairwise_iff_getElem] at hn
    exact hn (j - 1) j (by omega) hj (by omega)
/-- a merge under way: what is out, what is left of both halves -/
structure Mrg (src out a b : List ByteArray) : Prop where
  perm : (out ++ (a ++ b)).Perm src
  so : SrtP out
  sa : SrtP a
  sb : SrtP b
  le : ∀ x ∈ out, ∀ y ∈ a ++ b, LeS x y
theorem Mrg.init {src a b : List ByteArray} (h : (a ++ b).Perm src) (sa : SrtP a) (sb : SrtP b) : Mrg src [] a b := ⟨h, List.Pairwise.nil, sa, sb, fun _ h => absurd h (by simp)⟩
theorem srt_tail {x : ByteArray} {l : List ByteArray} (h : SrtP (x :: l)) : SrtP l ∧ ∀ y ∈ l, LeS x y := ⟨(List.pairwise_cons.1 h).2, (List.pairwise_cons.1 h).1⟩
theorem srt_push {x : ByteArray} {l : List ByteArray} (h : SrtP l) (hx : ∀ y ∈ l, LeS y x) : SrtP (l ++ [x]) := by
  unfold SrtP
  rw [List.pairwise_append]
  exact ⟨h, by simp, fun a ha b hb => by obtain rfl := List.mem_singleton.1 hb; exact hx a ha⟩
theorem Mrg.left {src out a b : List ByteArray} {x : ByteArray} (h : Mrg src out (x :: a) b) (hx : ∀ y, b.head? = some y → LeS x y) : Mrg src (out ++ [x]) a b := by
  obtain ⟨h1, h2⟩ := srt_tail h.sa
  have hb : ∀ y ∈ b, LeS x y := by
    intro y hy
    cases b with
    | nil => cases hy
    | cons z b =>
      rcases List.mem_cons.1 hy with rfl | hy
      · exact hx _ rfl
      · exact les_trans (hx z rfl) ((srt_tail h.sb).2 y hy)
  refine ⟨?_, srt_push h.so (fun y hy => h.le y hy x (by simp)), h1, h.sb, ?_⟩
  · have := h.perm
    simpa using this
  · intro y hy z hz
    rcases List.mem_append.1 hy with hy | hy
    · exact h.le y hy z (by simp only [List.cons_append, List.mem_cons]; exact .inr hz)
    · obtain rfl := List.mem_singleton.1 hy
      rcases List.mem_append.1 hz with hz | hz
      · exact h2 z hz
      · exact hb z hz
theorem Mrg.right {src out a b : List ByteArray} {x : ByteArray} (h : Mrg src out a (x :: b)) (hx : ∀ y, a.head? = some y → LeS x y) : Mrg src (out ++ [x]) a b := by
  obtain ⟨h1, h2⟩ := srt_tail h.sb
  have ha : ∀ y ∈ a, LeS x y := by
    intro y hy
    cases a with
    | nil => cases hy
    | cons z a =>
      rcases List.mem_cons.1 hy with rfl | hy
      · exact hx _ rfl
      · exact les_trans (hx z rfl) ((srt_tail h.sa).2 y hy)
  refine ⟨?_, srt_push h.so (fun y hy => h.le y hy x (by simp)), h.sa, h1, ?_⟩
  · refine List.Perm.trans ?_ h.perm
    rw [List.append_assoc]
    exact List.Perm.append_left out (by simpa using (List.perm_middle (a := x) (l₁ := a) (l₂ := b)).symm)
  · intro y hy z hz
    rcases List.mem_append.1 hy with hy | hy
    · exact h.le y hy z (by
        rcases List.mem_append.1 hz with hz | hz
        · exact List.mem_append_left _ hz
        · exact List.mem_append_right _ (by simp [hz]))
    · obtain rfl := List.mem_singleton.1 hy
      rcases List.mem_append.1 hz with hz | hz
      · exact ha z hz
      · exact h2 z hz
theorem Mrg.done {src out : List ByteArray} (h : Mrg src out [] []) : out.Perm src ∧ SrtP out := ⟨by have := h.perm; simpa using this, h.so⟩
-- floats
theorem datum_self : ∀ d : Ieee.Datum, d.order d = some .eq ∨ ∀ e, d.order e = none ∧ e.order d = none
  | .nan s m => .inr fun e => by cases e <;> exact ⟨rfl, rfl⟩
  | .infinity s => .inl (by cases s <;> rfl)
  | .number s m i => .inl (by
      simp only [Ieee.Datum.order, Option.some.injEq]
      exact Std.ReflCmp.compare_self)
theorem datum_none : ∀ d e : Ieee.Datum, d.order d = some .eq → e.order e = some .eq → d.order e ≠ none
  | .nan .., _, h, _ => by cases h
  | _, .nan .., _, h => by cases h
  | .infinity _, .infinity _, _, _ => by simp [Ieee.Datum.order]
  | .infinity _, .number .., _, _ => by simp [Ieee.Datum.order]
  | .number .., .infinity _, _, _ => by simp [Ieee.Datum.order]
  | .number .., .number .., _, _ => by simp [Ieee.Datum.order]
def FGt (x y : Nat) : Prop := FloatKind.f64.format.order x y = some .gt
theorem flt_tri {x y : Nat} (hx : FEq x x) (hy : FEq y y) : FLt x y ∨ FEq x y ∨ FGt x y := by
  have h := datum_none _ _ hx hy
  unfold FLt FEq FGt Ieee.Format.order
  cases hq : ((FloatKind.f64.format.read x).order (FloatKind.f64.format.read y)) with
  | none => exact absurd hq h
  | some o => cases o <;> simp
theorem fsame_excl {x y : Nat} (h : FEq x y) : ¬ FLt x y ∧ ¬ FGt x y := by
  unfold FLt FGt
  unfold FEq at h
  rw [h]
  simp
theorem flt_excl {x y : Nat} (h : FLt x y) : ¬ FEq x y ∧ ¬ FGt x y := by
  unfold FEq FGt
  unfold FLt at h
  rw [h]
  simp
theorem signed_zero {s : Bool} {m u : Nat} (h : Ieee.signed s m u = 0) : m = 0 := by
  unfold Ieee.signed at h
  have h2 : m <<< u = 0 := by
    cases s
    · simpa using h
    · simpa using h
  rw [Nat.shiftLeft_eq] at h2
  rcases Nat.mul_eq_zero.1 h2 with h2 | h2
  · exact h2
  · exact absurd h2 (Nat.pos_iff_ne_zero.1 (Nat.two_pow_pos u))
theorem number_zero {s : Bool} {m : Nat} {i j : Int} (h : (Ieee.Datum.number s m i).order (.number false 0 j) = some .eq) : m = 0 := by
  simp only [Ieee.Datum.order, Option.some.injEq] at h
  have h2 := Std.LawfulEqOrd.eq_of_compare h
  refine signed_zero (s := s) (u := (i - min i j).toNat) (h2.trans ?_)
  simp [Ieee.signed]
/-- equal to zero: its lower bits are nought -/
theorem feq_zero {x : Nat} (h : FEq x 0) : x % 9223372036854775808 = 0 := by
  have e0 : FloatKind.f64.format.read 0 = .number false 0 (-1074) := by rfl
  have hs : FloatKind.f64.format.signWeight = 9223372036854775808 := by rfl
  have hb : FloatKind.f64.format.binade = 4503599627370496 := by rfl
  have h' : (FloatKind.f64.format.read x).order (.number false 0 (-1074)) = some .eq := by rw [← e0]; exact h
  unfold Ieee.Format.read at h'
  simp only [hs, hb] at h'
  split at h'
  · exact number_zero h'
  · split at h'
    · have := number_zero h'
      omega
    · split at h'
      · exfalso
        cases hq : (x / 9223372036854775808 % 2 == 1) <;> rw [hq] at h' <;> simp [Ieee.Datum.order] at h'
      · simp [Ieee.Datum.order] at h'
end Go.Proofs.YtpnmhldaaaemeaaGreat.Snp
/- Chapter 24: twins are as they were. Printed by gen_left24.py texts pairs. -/
namespace Go.Proofs.YtpnmhldaaaemeaaGreat.Snp
open Go.RowKit Go.Proofs.YtpnmhldaaaemeaaGreat.Pin
set_option maxHeartbeats 2000000 in
set_option maxRecDepth 100000 in
theorem left_texts (l : List ByteArray) (v u : Value) (w : World) (ok : Nat → Prop) (hT : Tw_texts w ok v l) (hU : TextsAt w w.heap.size u l) (hl : l.length ≤ 1048576) :
    Calls Tryz.prog 109 #[v, u] w fun e w' => e = .returned (.bool true) ∧ Below w.heap.size w w' := by
  have HTW := Lib.hid hT
  obtain ⟨g, rfl, -, hg, hc, -, hs⟩ := hT.cells
  obtain ⟨E, d, rfl, hU⟩ := hU
  obtain ⟨L, hL⟩ : ∃ L, L = l.length := ⟨_, rfl⟩
  have HL := Lib.hid hL
  rw [← hL] at hl hs ⊢
  have HU := Lib.hid hU
  have HC := Lib.hid hc
  have HS := Lib.hid hs
  have hq0 : ¬ ((L : Int) + 1 ≤ (L : Int)) := by omega
  clear hL hU hc hs hT
  go_enter Tryz.func109, Tryz.ntmps109
  go_wp2_with fail
  go_loopw [5] (fun i wr => ∃ k : Nat, k ≤ L ∧ i = .int .i64 k ∧ Hid (Below w.heap.size w wr)) (fun i _ => L - (intOf i).toNat)
  case atStart => exact ⟨0, Nat.zero_le _, rfl, Lib.hid (Below.refl _ _)⟩
  case round =>
    obtain ⟨k, hk, rfl, HB⟩ := hrel
    by_cases hlt : (k : Int) < (L : Int)
    · have hkl : k < l.length := by have := HL.out; omega
      obtain ⟨p, q, rfl, hp, hd⟩ := HU.out (by omega)
      obtain ⟨x, hx⟩ : ∃ x, x = l[k] := ⟨_, rfl⟩
      obtain ⟨cs, hcl, hce, hcc⟩ := HC.out k hkl
      have hdk := hd k hkl
      rw [← hx] at hce hdk
      subst hce
      have x0 : wr.cell? ⟨g, k, none⟩ = some (.string x) := (HB.out.cell (p := ⟨g, _, none⟩) hg).trans (by have := hcc 0 _ rfl; simpa using this)
      have y0 : wr.cell? ⟨p, q + k, none⟩ = some (.string x) := (HB.out.cell (p := ⟨p, _, none⟩) hp).trans hdk
      clear hx hd hdk hcc hcl
      go_wp2_with fail
      refine wp_region_q [0,0,0,1,0,0,0,1,0] (by kernel_rfl) (by kernel_rfl) ?_
      (refine q_pure_n rfl (fun K hK => ?_); go_simp; refine hK _ _ ?_; clear hK K)
      (refine q_pure_n rfl (fun K hK => ?_); go_simp; refine hK _ _ ?_; clear hK K)
      (refine q_pure_n rfl (fun K hK => ?_); go_simp; refine hK _ _ ?_; clear hK K)
      (refine q_read_n rfl (fun K hK => ?_); go_simp; refine hK _ _ ?_; clear hK K)
      (refine q_pure_n rfl (fun K hK => ?_); go_simp; refine hK _ _ ?_; clear hK K)
      (refine q_pure_n rfl (fun K hK => ?_); go_simp; refine hK _ _ ?_; clear hK K)
      (refine q_pure_n rfl (fun K hK => ?_); go_simp; refine hK _ _ ?_; clear hK K)
      (refine q_read_n rfl (fun K hK => ?_); go_simp; refine hK _ _ ?_; clear hK K)
      (refine q_pure_n rfl (fun K hK => ?_); go_simp; refine hK _ _ ?_; clear hK K)
      refine q_nil ?_
      intro nq
      go_wp2_with fail
      exact ⟨⟨k + 1, by omega, by go_num, Lib.hid (below_drewN HB.out _)⟩, by simp [intOf]; omega⟩
    · have hkL : k = L := by omega
      have s0 : wr.cell? ⟨g, L, none⟩ = some (.string ⟨#[115, 112, 97, 114, 101]⟩) := (HB.out.cell (p := ⟨g, _, none⟩) hg).trans (by have := HS.out 0 _ rfl; simpa using this)
      clear hkL
      go_wp2_with fail
      go_ret
      exact ⟨rfl, HB.out⟩
set_option maxHeartbeats 2000000 in
set_option maxRecDepth 100000 in
theorem left_pairs (l : List Pr) (v u : Value) (w : World) (ok : Nat → Prop) (hT : Tw_pairs w ok v l) (hU : PairsAt w w.heap.size u l) (hl : l.length ≤ 1048576) :
    Calls Tryz.prog 110 #[v, u] w fun e w' => e = .returned (.bool true) ∧ Below w.heap.size w w' := by
  have HTW := Lib.hid hT
  obtain ⟨g, rfl, -, hg, hc, -, hs⟩ := hT.cells
  obtain ⟨E, d, rfl, hU⟩ := hU
  obtain ⟨L, hL⟩ : ∃ L, L = l.length := ⟨_, rfl⟩
  have HL := Lib.hid hL
  rw [← hL] at hl hs ⊢
  have HU := Lib.hid hU
  have HC := Lib.hid hc
  have HS := Lib.hid hs
  have hq0 : ¬ ((L : Int) + 1 ≤ (L : Int)) := by omega
  clear hL hU hc hs hT
  go_enter Tryz.func110, Tryz.ntmps110
  go_wp2_with fail
  go_loopw [5] (fun i wr => ∃ k : Nat, k ≤ L ∧ i = .int .i64 k ∧ Hid (Below w.heap.size w wr)) (fun i _ => L - (intOf i).toNat)
  case atStart => exact ⟨0, Nat.zero_le _, rfl, Lib.hid (Below.refl _ _)⟩
  case round =>
    obtain ⟨k, hk, rfl, HB⟩ := hrel
    by_cases hlt : (k : Int) < (L : Int)
    · have hkl : k < l.length := by have := HL.out; omega
      obtain ⟨p, q, rfl, hp, hd⟩ := HU.out (by omega)
      obtain ⟨x, hx⟩ : ∃ x, x = l[k] := ⟨_, rfl⟩
      obtain ⟨cs, hcl, hce, hcc⟩ := HC.out k hkl
      have hdk := hd k hkl
      rw [← hx] at hce hdk
      subst hce
      have x0 : wr.cell? ⟨g, k * 2, none⟩ = some (.string x.1) := (HB.out.cell (p := ⟨g, _, none⟩) hg).trans (by have := hcc 0 _ rfl; simpa using this)
      have x1 : wr.cell? ⟨g, k * 2 + 1, none⟩ = some (.string x.2) := (HB.out.cell (p := ⟨g, _, none⟩) hg).trans (by have := hcc 1 _ rfl; simpa using this)
      have y0 : wr.cell? ⟨p, q + k * 2, none⟩ = some (.string x.1) := (HB.out.cell (p := ⟨p, _, none⟩) hp).trans hdk.1
      have y1 : wr.cell? ⟨p, q + k * 2 + 1, none⟩ = some (.string x.2) := (HB.out.cell (p := ⟨p, _, none⟩) hp).trans hdk.2
      clear hx hd hdk hcc hcl
      go_wp2_with fail
      refine wp_region_q [0,0,0,1,0,0,0,1,0] (by kernel_rfl) (by kernel_rfl) ?_
      (refine q_pure_n rfl (fun K hK => ?_); go_simp; refine hK _ _ ?_; clear hK K)
      (refine q_pure_n rfl (fun K hK => ?_); go_simp; refine hK _ _ ?_; clear hK K)
      (refine q_pure_n rfl (fun K hK => ?_); go_simp; refine hK _ _ ?_; clear hK K)
      (refine q_read_n rfl (fun K hK => ?_); go_simp; refine hK _ _ ?_; clear hK K)
      (refine q_pure_n rfl (fun K hK => ?_); go_simp; refine hK _ _ ?_; clear hK K)
      (refine q_pure_n rfl (fun K hK => ?_); go_simp; refine hK _ _ ?_; clear hK K)
      (refine q_pure_n rfl (fun K hK => ?_); go_simp; refine hK _ _ ?_; clear hK K)
      (refine q_read_n rfl (fun K hK => ?_); go_simp; refine hK _ _ ?_; clear hK K)
      (refine q_pure_n rfl (fun K hK => ?_); go_simp; refine hK _ _ ?_; clear hK K)
      refine q_nil ?_
      intro nq
      go_wp2_with fail
      exact ⟨⟨k + 1, by omega, by go_num, Lib.hid (below_drewN HB.out _)⟩, by simp [intOf]; omega⟩
    · have hkL : k = L := by omega
      have s0 : wr.cell? ⟨g, L * 2, none⟩ = some (.string ⟨#[115, 112, 97, 114, 101]⟩) := (HB.out.cell (p := ⟨g, _, none⟩) hg).trans (by have := HS.out 0 _ rfl; simpa using this)
      have s1 : wr.cell? ⟨g, L * 2 + 1, none⟩ = some (.string ⟨#[]⟩) := (HB.out.cell (p := ⟨g, _, none⟩) hg).trans (by have := HS.out 1 _ rfl; simpa using this)
      clear hkL
      go_wp2_with fail
      go_ret
      exact ⟨rfl, HB.out.alloc HB.out.size _⟩
end Go.Proofs.YtpnmhldaaaemeaaGreat.Snp
/- Chapter 24: twins are as they were: floats, members, entries. -/
namespace Go.Proofs.YtpnmhldaaaemeaaGreat.Snp
open Go.RowKit Go.Proofs.YtpnmhldaaaemeaaGreat.Pin
set_option maxRecDepth 100000 in
theorem same_float_self (a : Nat) (w : World) : Calls Tryz.prog 126 #[.float .f64 a, .float .f64 a] w fun e w' => e = .returned (.bool true) ∧ w = w' := by
  have hc1 := call_bits a
  cases h1 : (FloatKind.f64.format.order a a != some Ordering.eq) with
  | false =>
    go_enter Tryz.func126, Tryz.ntmps126
    go_wp2_with fail
    go_ret
    exact ⟨by simp, rfl⟩
  | true =>
    go_enter Tryz.func126, Tryz.ntmps126
    go_wp2_with fail
    go_ret
    exact ⟨rfl, rfl⟩
theorem left_float (a : Nat) (w : World) : Calls Tryz.prog 125 #[.float .f64 a, .float .f64 a] w fun e w' => e = .returned (.bool true) ∧ w = w' := by
  have HS := Lib.hid (same_float_self a)
  go_enter Tryz.func125, Tryz.ntmps125
  go_wp2_with fail
  refine (HS.out _).mono ?_
  rintro e w' ⟨rfl, rfl⟩
  go_wp2_with fail
  go_ret
  exact ⟨rfl, rfl⟩
theorem left_scored (x : Sc) (w : World) : Calls Tryz.prog 121 #[.agg #[.string x.1, .float .f64 x.2], .agg #[.string x.1, .float .f64 x.2]] w fun e w' => e = .returned (.bool true) ∧ Below w.heap.size w w' := by
  obtain ⟨a, i⟩ := x
  have HF := Lib.hid (fun w => left_float i w)
  have hq : (a.toList == a.toList) = true := by simp
  go_enter Tryz.func121, Tryz.ntmps121
  go_wp2_with fail
  refine (HF.out _).mono ?_
  rintro e w' ⟨rfl, rfl⟩
  go_wp2_with fail
  go_ret
  exact ⟨rfl, ((Below.refl _ _).alloc (Nat.le_refl _) _).alloc (by simp) _⟩
theorem left_entry (x : En) (v u : Value) (w : World) (ok : Nat → Prop) (hT : Tw_pairs w ok v x.pairs) (hU : PairsAt w w.heap.size u x.pairs) (hl : x.pairs.length ≤ 1048576) :
    Calls Tryz.prog 122 #[.agg #[.int .u64 (x.ms : Int), .int .u64 (x.seq : Int), v], .agg #[.int .u64 (x.ms : Int), .int .u64 (x.seq : Int), u]] w fun e w' => e = .returned (.bool true) ∧ Below w.heap.size w w' := by
  obtain ⟨a, b, p⟩ := x
  have HP := Lib.hid (fun W (hb : Below w.heap.size w W) => left_pairs p v u W ok (hT.keep (flat_el _) hb.size (fun r _ hr => hb.block r hr)) ((hU.below hb).more hb.size) hl)
  have HB0 : Hid (∀ o o' : Obj, Below w.heap.size w ((w.alloc o).alloc o')) := Lib.hid (fun o o' => ((Below.refl _ w).alloc (Nat.le_refl _) _).alloc (by simp) _)
  obtain ⟨g, rfl, _⟩ := id hT
  obtain ⟨A, ca, rfl, _⟩ := id hU
  clear hT hU hl
  go_enter Tryz.func122, Tryz.ntmps122
  go_wp2_with fail
  refine (HP.out _ (HB0.out _ _)).mono ?_
  rintro e w' ⟨rfl, hb⟩
  have HB1 := Lib.hid ((HB0.out _ _).trans (hb.mono (HB0.out _ _).size))
  clear hb
  go_wp2_with fail
  go_ret
  exact ⟨rfl, HB1.out⟩
end Go.Proofs.YtpnmhldaaaemeaaGreat.Snp
/- Chapter 24: twins are as they were. Printed by gen_left24.py scoreds entries. -/

namespace Go.Proofs.YtpnmhldaaaemeaaGreat.Snp
open Go.RowKit Go.Proofs.YtpnmhldaaaemeaaGreat.Pin
set_option maxHeartbeats 2000000 in
set_option maxRecDepth 100000 in
theorem left_scoreds (l : List Sc) (v u : Value) (w : World) (ok : Nat → Prop) (hT : Tw_scoreds w ok v l) (hU : ScoredsAt w w.heap.size u l) (hl : l.length ≤ 1048576) :
    Calls Tryz.prog 111 #[v, u] w fun e w' => e = .returned (.bool true) ∧ Below w.heap.size w w' := by
  have HTW := Lib.hid hT
  obtain ⟨g, rfl, -, hg, hc, -, hs⟩ := hT.cells
  obtain ⟨E, d, rfl, hU⟩ := hU
  obtain ⟨L, hL⟩ : ∃ L, L = l.length := ⟨_, rfl⟩
  have HL := Lib.hid hL
  rw [← hL] at hl hs ⊢
  have HU := Lib.hid hU
  have HC := Lib.hid hc
  have HS := Lib.hid hs
  have hq0 : ¬ ((L : Int) + 1 ≤ (L : Int)) := by omega
  clear hL hU hc hs hT
  go_enter Tryz.func111, Tryz.ntmps111
  go_wp2_with fail
  go_loopw [5] (fun i wr => ∃ k : Nat, k ≤ L ∧ i = .int .i64 k ∧ Hid (Below w.heap.size w wr)) (fun i _ => L - (intOf i).toNat)
  case atStart => exact ⟨0, Nat.zero_le _, rfl, Lib.hid (Below.refl _ _)⟩
  case round =>
    obtain ⟨k, hk, rfl, HB⟩ := hrel
    by_cases hlt : (k : Int) < (L : Int)
    · have hkl : k < l.length := by have := HL.out; omega
      obtain ⟨p, q, rfl, hp, hd⟩ := HU.out (by omega)
      obtain ⟨x, hx⟩ : ∃ x, x = l[k] := ⟨_, rfl⟩
      obtain ⟨cs, hcl, hce, hcc⟩ := HC.out k hkl
      have hdk := hd k hkl
      rw [← hx] at hce hdk
      subst hce
      have x0 : wr.cell? ⟨g, k * 2, none⟩ = some (.string x.1) := (HB.out.cell (p := ⟨g, _, none⟩) hg).trans (by have := hcc 0 _ rfl; simpa using this)
      have x1 : wr.cell? ⟨g, k * 2 + 1, none⟩ = some (.float .f64 x.2) := (HB.out.cell (p := ⟨g, _, none⟩) hg).trans (by have := hcc 1 _ rfl; simpa using this)
      have y0 : wr.cell? ⟨p, q + k * 2, none⟩ = some (.string x.1) := (HB.out.cell (p := ⟨p, _, none⟩) hp).trans hdk.1
      have y1 : wr.cell? ⟨p, q + k * 2 + 1, none⟩ = some (.float .f64 x.2) := (HB.out.cell (p := ⟨p, _, none⟩) hp).trans hdk.2
      clear hx hd hdk hcc hcl
      have HCALL := Lib.hid (fun n => left_scored x (wr.drewN n))
      go_wp2_with fail
      refine wp_region_q [0,0,0,1,0,0,0,1,2,0] (by kernel_rfl) (by kernel_rfl) ?_
      (refine q_pure_n rfl (fun K hK => ?_); go_simp; refine hK _ _ ?_; clear hK K)
      (refine q_pure_n rfl (fun K hK => ?_); go_simp; refine hK _ _ ?_; clear hK K)
      (refine q_pure_n rfl (fun K hK => ?_); go_simp; refine hK _ _ ?_; clear hK K)
      (refine q_read_n rfl (fun K hK => ?_); go_simp; refine hK _ _ ?_; clear hK K)
      (refine q_pure_n rfl (fun K hK => ?_); go_simp; refine hK _ _ ?_; clear hK K)
      (refine q_pure_n rfl (fun K hK => ?_); go_simp; refine hK _ _ ?_; clear hK K)
      (refine q_pure_n rfl (fun K hK => ?_); go_simp; refine hK _ _ ?_; clear hK K)
      (refine q_read_n rfl (fun K hK => ?_); go_simp; refine hK _ _ ?_; clear hK K)
      (refine q_write_n rfl (fun K hK => ?_); go_simp; intro nw; refine (HCALL.out _).mono ?_; rintro e w3 ⟨rfl, hb3⟩; obtain ⟨w3, rfl⟩ : ∃ w5, w3 = World.drewN w5 0 := ⟨w3, rfl⟩; have HB3 : Hid (Below w.heap.size w w3) := Lib.hid ((below_drewN HB.out _).trans (hb3.mono HB.out.size)); clear hb3; refine ⟨_, rfl, _, ⟨_, rfl⟩, hK _ _ ?_⟩; clear hK K)
      (refine q_pure_n rfl (fun K hK => ?_); go_simp; refine hK _ _ ?_; clear hK K)
      refine q_nil ?_
      intro nq
      go_wp2_with fail
      exact ⟨⟨k + 1, by omega, by go_num, Lib.hid (below_drewN HB3.out _)⟩, by simp [intOf]; omega⟩
    · have hkL : k = L := by omega
      have s0 : wr.cell? ⟨g, L * 2, none⟩ = some (.string ⟨#[115, 112, 97, 114, 101]⟩) := (HB.out.cell (p := ⟨g, _, none⟩) hg).trans (by have := HS.out 0 _ rfl; simpa using this)
      have s1 : wr.cell? ⟨g, L * 2 + 1, none⟩ = some (.float .f64 0) := (HB.out.cell (p := ⟨g, _, none⟩) hg).trans (by have := HS.out 1 _ rfl; simpa using this)
      clear hkL
      have HO : Hid ((#[.string ⟨#[115, 112, 97, 114, 101]⟩, .float .f64 0] : Array Value).all (·.oneCell') = true) := Lib.hid (by simp [Value.oneCell'])
      go_wp2_with (refine wpList_store_row rfl 88 (.tmp 6) (.tmp 43) (by rfl) wr.heap.size #[.string ⟨#[115, 112, 97, 114, 101]⟩, .float .f64 0] (by rfl) (by rfl) 88 #[.string ⟨#[]⟩, .float .f64 0] (heap_alloc_new wr _) size_scored rfl HO.out ?_; rw [World.setRow_alloc_new])
      go_ret
      exact ⟨rfl, HB.out.alloc HB.out.size _⟩
set_option maxHeartbeats 2000000 in
set_option maxRecDepth 100000 in
theorem left_entries (l : List En) (v u : Value) (w : World) (ok : Nat → Prop) (hT : Tw_entries w ok v l) (hU : EntriesAt w w.heap.size u l) (hl : l.length ≤ 1048576) (hm : ∀ y ∈ l, y.pairs.length ≤ 1048576) :
    Calls Tryz.prog 112 #[v, u] w fun e w' => e = .returned (.bool true) ∧ Below w.heap.size w w' := by
  have HTW := Lib.hid hT
  obtain ⟨g, rfl, -, hg, hc, -, hs⟩ := hT.cells
  obtain ⟨E, d, rfl, hU⟩ := hU
  obtain ⟨L, hL⟩ : ∃ L, L = l.length := ⟨_, rfl⟩
  have HL := Lib.hid hL
  rw [← hL] at hl hs ⊢
  have HU := Lib.hid hU
  have HC := Lib.hid hc
  have HS := Lib.hid hs
  have hq0 : ¬ ((L : Int) + 1 ≤ (L : Int)) := by omega
  clear hL hU hc hs hT
  have HM := Lib.hid hm
  clear hm
  go_enter Tryz.func112, Tryz.ntmps112
  go_wp2_with fail
  go_loopw [5] (fun i wr => ∃ k : Nat, k ≤ L ∧ i = .int .i64 k ∧ Hid (Below w.heap.size w wr)) (fun i _ => L - (intOf i).toNat)
  case atStart => exact ⟨0, Nat.zero_le _, rfl, Lib.hid (Below.refl _ _)⟩
  case round =>
    obtain ⟨k, hk, rfl, HB⟩ := hrel
    by_cases hlt : (k : Int) < (L : Int)
    · have hkl : k < l.length := by have := HL.out; omega
      obtain ⟨p, q, rfl, hp, hd⟩ := HU.out (by omega)
      obtain ⟨x, hx⟩ : ∃ x, x = l[k] := ⟨_, rfl⟩
      obtain ⟨cs, hcl, hce, hcc⟩ := HC.out k hkl
      have hdk := hd k hkl
      rw [← hx] at hce hdk
      obtain ⟨pv, rfl, hpv⟩ := hce
      obtain ⟨k1, k2, xv, k3, k4⟩ := hdk
      have x0 : wr.cell? ⟨g, k * 3, none⟩ = some (.int .u64 (x.ms : Int)) := (HB.out.cell (p := ⟨g, _, none⟩) hg).trans (by have := hcc 0 _ rfl; simpa using this)
      have x1 : wr.cell? ⟨g, k * 3 + 1, none⟩ = some (.int .u64 (x.seq : Int)) := (HB.out.cell (p := ⟨g, _, none⟩) hg).trans (by have := hcc 1 _ rfl; simpa using this)
      have x2 : wr.cell? ⟨g, k * 3 + 2, none⟩ = some pv := (HB.out.cell (p := ⟨g, _, none⟩) hg).trans (by have := hcc 2 _ rfl; simpa using this)
      have y0 : wr.cell? ⟨p, q + k * 3, none⟩ = some (.int .u64 (x.ms : Int)) := (HB.out.cell (p := ⟨p, _, none⟩) hp).trans k1
      have y1 : wr.cell? ⟨p, q + k * 3 + 1, none⟩ = some (.int .u64 (x.seq : Int)) := (HB.out.cell (p := ⟨p, _, none⟩) hp).trans k2
      have y2 : wr.cell? ⟨p, q + k * 3 + 2, none⟩ = some xv := (HB.out.cell (p := ⟨p, _, none⟩) hp).trans k3
      have HCALL := Lib.hid (fun n => left_entry x pv xv (wr.drewN n) ok (hpv.keep (flat_el _) (below_drewN HB.out n).size (fun r _ hr => (below_drewN HB.out n).block r hr)) ((k4.below (below_drewN HB.out n)).more HB.out.size) (by rw [hx]; exact HM.out _ (List.getElem_mem hkl)))
      clear hx hd k1 k2 k3 k4 hcc hcl hpv
      go_wp2_with fail
      refine wp_region_q [0,0,0,1,0,0,0,1,2,0] (by kernel_rfl) (by kernel_rfl) ?_
      (refine q_pure_n rfl (fun K hK => ?_); go_simp; refine hK _ _ ?_; clear hK K)
      (refine q_pure_n rfl (fun K hK => ?_); go_simp; refine hK _ _ ?_; clear hK K)
      (refine q_pure_n rfl (fun K hK => ?_); go_simp; refine hK _ _ ?_; clear hK K)
      (refine q_read_n rfl (fun K hK => ?_); go_simp; refine hK _ _ ?_; clear hK K)
      (refine q_pure_n rfl (fun K hK => ?_); go_simp; refine hK _ _ ?_; clear hK K)
      (refine q_pure_n rfl (fun K hK => ?_); go_simp; refine hK _ _ ?_; clear hK K)
      (refine q_pure_n rfl (fun K hK => ?_); go_simp; refine hK _ _ ?_; clear hK K)
      (refine q_read_n rfl (fun K hK => ?_); go_simp; refine hK _ _ ?_; clear hK K)
      (refine q_write_n rfl (fun K hK => ?_); go_simp; intro nw; refine (HCALL.out _).mono ?_; rintro e w3 ⟨rfl, hb3⟩; obtain ⟨w3, rfl⟩ : ∃ w5, w3 = World.drewN w5 0 := ⟨w3, rfl⟩; have HB3 : Hid (Below w.heap.size w w3) := Lib.hid ((below_drewN HB.out _).trans (hb3.mono HB.out.size)); clear hb3; refine ⟨_, rfl, _, ⟨_, rfl⟩, hK _ _ ?_⟩; clear hK K)
      (refine q_pure_n rfl (fun K hK => ?_); go_simp; refine hK _ _ ?_; clear hK K)
      refine q_nil ?_
      intro nq
      go_wp2_with fail
      exact ⟨⟨k + 1, by omega, by go_num, Lib.hid (below_drewN HB3.out _)⟩, by simp [intOf]; omega⟩
    · have hkL : k = L := by omega
      have s0 : wr.cell? ⟨g, L * 3, none⟩ = some (.int .u64 7777) := (HB.out.cell (p := ⟨g, _, none⟩) hg).trans (by have := HS.out 0 _ rfl; simpa using this)
      have s1 : wr.cell? ⟨g, L * 3 + 1, none⟩ = some (.int .u64 0) := (HB.out.cell (p := ⟨g, _, none⟩) hg).trans (by have := HS.out 1 _ rfl; simpa using this)
      have s2 : wr.cell? ⟨g, L * 3 + 2, none⟩ = some (.slice none 0 0) := (HB.out.cell (p := ⟨g, _, none⟩) hg).trans (by have := HS.out 2 _ rfl; simpa using this)
      clear hkL
      go_wp2_with fail
      go_ret
      exact ⟨rfl, HB.out.alloc HB.out.size _⟩
end Go.Proofs.YtpnmhldaaaemeaaGreat.Snp
/- Chapter 24: twins are as they were: values, items. Printed by gen_leftv24.py. -/
namespace Go.Proofs.YtpnmhldaaaemeaaGreat.Snp
open Go.RowKit Go.Proofs.YtpnmhldaaaemeaaGreat.Pin
abbrev vO24 (v : Va) (c : Cl) : Obj := .cells #[.int .u8 (v.kind : Int), .string v.text, c.lv, c.hv, c.sv, c.zv, c.ev, .int .u64 (v.ms : Int), .int .u64 (v.seq : Int)] 42
theorem vO24_cells {W : World} {b : Nat} {v : Va} {c : Cl} (h : W.heap[b]? = some (vO24 v c)) :
    W.cell? ⟨b, 0, none⟩ = some (.int .u8 (v.kind : Int)) ∧ W.cell? ⟨b, 1, none⟩ = some (.string v.text) ∧ W.cell? ⟨b, 2, none⟩ = some (c.lv) ∧ W.cell? ⟨b, 3, none⟩ = some (c.hv) ∧ W.cell? ⟨b, 4, none⟩ = some (c.sv) ∧ W.cell? ⟨b, 5, none⟩ = some (c.zv) ∧ W.cell? ⟨b, 6, none⟩ = some (c.ev) ∧ W.cell? ⟨b, 7, none⟩ = some (.int .u64 (v.ms : Int)) ∧ W.cell? ⟨b, 8, none⟩ = some (.int .u64 (v.seq : Int)) := by
  refine ⟨?_, ?_, ?_, ?_, ?_, ?_, ?_, ?_, ?_⟩ <;> (rw [Lib.cell_of_heap h]; rfl)
set_option maxHeartbeats 2000000 in
set_option maxRecDepth 100000 in
theorem left_value (x : Va) (c d : Cl) (w : World) (ok : Nat → Prop) (hx : TVal w ok c x) (hy : ValAt w w.heap.size d x) (hf : Few x) :
    Calls Tryz.prog 79 #[.agg #[.int .u8 (x.kind : Int), .string x.text, c.lv, c.hv, c.sv, c.zv, c.ev, .int .u64 (x.ms : Int), .int .u64 (x.seq : Int)], .agg #[.int .u8 (x.kind : Int), .string x.text, d.lv, d.hv, d.sv, d.zv, d.ev, .int .u64 (x.ms : Int), .int .u64 (x.seq : Int)]] w fun e w' => e = .returned (.bool true) ∧ Below w.heap.size w w' := by
  have e2 : (x.text.toList == x.text.toList) = true := by simp
  have C3 : Hid (∀ W, Below w.heap.size w W → Calls Tryz.prog 109 #[c.lv, d.lv] W fun e w' => e = .returned (.bool true) ∧ Below W.heap.size W w') := Lib.hid (fun W hW => left_texts x.list _ _ W ok (hx.keep hW.size (fun r _ hr => hW.block r hr)).list ((hy.list.below hW).more hW.size) hf.list)
  have C4 : Hid (∀ W, Below w.heap.size w W → Calls Tryz.prog 110 #[c.hv, d.hv] W fun e w' => e = .returned (.bool true) ∧ Below W.heap.size W w') := Lib.hid (fun W hW => left_pairs x.hash _ _ W ok (hx.keep hW.size (fun r _ hr => hW.block r hr)).hash ((hy.hash.below hW).more hW.size) hf.hash)
  have C5 : Hid (∀ W, Below w.heap.size w W → Calls Tryz.prog 109 #[c.sv, d.sv] W fun e w' => e = .returned (.bool true) ∧ Below W.heap.size W w') := Lib.hid (fun W hW => left_texts x.set _ _ W ok (hx.keep hW.size (fun r _ hr => hW.block r hr)).set ((hy.set.below hW).more hW.size) hf.set)
  have C6 : Hid (∀ W, Below w.heap.size w W → Calls Tryz.prog 111 #[c.zv, d.zv] W fun e w' => e = .returned (.bool true) ∧ Below W.heap.size W w') := Lib.hid (fun W hW => left_scoreds x.zset _ _ W ok (hx.keep hW.size (fun r _ hr => hW.block r hr)).zset ((hy.zset.below hW).more hW.size) hf.zset)
  have C7 : Hid (∀ W, Below w.heap.size w W → Calls Tryz.prog 112 #[c.ev, d.ev] W fun e w' => e = .returned (.bool true) ∧ Below W.heap.size W w') := Lib.hid (fun W hW => left_entries x.stream _ _ W ok (hx.keep hW.size (fun r _ hr => hW.block r hr)).stream ((hy.stream.below hW).more hW.size) hf.stream hf.pairs)
  have HB2 : Hid (Below w.heap.size w ((w.alloc (vO24 x c)).alloc (vO24 x d))) := Lib.hid (((Below.refl _ w).alloc (Nat.le_refl _) _).alloc (by simp) _)
  have HX2 : Hid (((w.alloc (vO24 x c)).alloc (vO24 x d)).heap[w.heap.size]? = some (vO24 x c)) := Lib.hid ((Lib.alloc_old _ _ _ (by simp)).trans (heap_alloc_new w _))
  have HY2 : Hid (((w.alloc (vO24 x c)).alloc (vO24 x d)).heap[w.heap.size + 1]? = some (vO24 x d)) := Lib.hid (by have := heap_alloc_new (w.alloc (vO24 x c)) (vO24 x d); simpa using this)
  clear hx hy hf
  go_enter Tryz.func79, Tryz.ntmps79
  go_wp2_with fail
  refine (C3.out _ HB2.out).mono ?_
  rintro e w3 ⟨rfl, hb⟩
  have HB3 : Hid (Below w.heap.size w w3) := Lib.hid (HB2.out.trans (hb.mono HB2.out.size))
  have HX3 : Hid (w3.heap[w.heap.size]? = some (vO24 x c)) := Lib.hid ((hb.block _ (Array.getElem?_eq_some_iff.1 HX2.out).1).trans HX2.out)
  have HY3 : Hid (w3.heap[w.heap.size + 1]? = some (vO24 x d)) := Lib.hid ((hb.block _ (Array.getElem?_eq_some_iff.1 HY2.out).1).trans HY2.out)
  obtain ⟨x30, x31, x32, x33, x34, x35, x36, x37, x38⟩ := vO24_cells HX3.out
  obtain ⟨y30, y31, y32, y33, y34, y35, y36, y37, y38⟩ := vO24_cells HY3.out
  clear hb
  go_wp2_with fail
  refine (C4.out _ HB3.out).mono ?_
  rintro e w4 ⟨rfl, hb⟩
  have HB4 : Hid (Below w.heap.size w w4) := Lib.hid (HB3.out.trans (hb.mono HB3.out.size))
  have HX4 : Hid (w4.heap[w.heap.size]? = some (vO24 x c)) := Lib.hid ((hb.block _ (Array.getElem?_eq_some_iff.1 HX3.out).1).trans HX3.out)
  have HY4 : Hid (w4.heap[w.heap.size + 1]? = some (vO24 x d)) := Lib.hid ((hb.block _ (Array.getElem?_eq_some_iff.1 HY3.out).1).trans HY3.out)
  obtain ⟨x40, x41, x42, x43, x44, x45, x46, x47, x48⟩ := vO24_cells HX4.out
  obtain ⟨y40, y41, y42, y43, y44, y45, y46, y47, y48⟩ := vO24_cells HY4.out
  clear hb
  go_wp2_with fail
  refine (C5.out _ HB4.out).mono ?_
  rintro e w5 ⟨rfl, hb⟩
  have HB5 : Hid (Below w.heap.size w w5) := Lib.hid (HB4.out.trans (hb.mono HB4.out.size))
  have HX5 : Hid (w5.heap[w.heap.size]? = some (vO24 x c)) := Lib.hid ((hb.block _ (Array.getElem?_eq_some_iff.1 HX4.out).1).trans HX4.out)
  have HY5 : Hid (w5.heap[w.heap.size + 1]? = some (vO24 x d)) := Lib.hid ((hb.block _ (Array.getElem?_eq_some_iff.1 HY4.out).1).trans HY4.out)
  obtain ⟨x50, x51, x52, x53, x54, x55, x56, x57, x58⟩ := vO24_cells HX5.out
  obtain ⟨y50, y51, y52, y53, y54, y55, y56, y57, y58⟩ := vO24_cells HY5.out
  clear hb
  go_wp2_with fail
  refine (C6.out _ HB5.out).mono ?_
  rintro e w6 ⟨rfl, hb⟩
  have HB6 : Hid (Below w.heap.size w w6) := Lib.hid (HB5.out.trans (hb.mono HB5.out.size))
  have HX6 : Hid (w6.heap[w.heap.size]? = some (vO24 x c)) := Lib.hid ((hb.block _ (Array.getElem?_eq_some_iff.1 HX5.out).1).trans HX5.out)
  have HY6 : Hid (w6.heap[w.heap.size + 1]? = some (vO24 x d)) := Lib.hid ((hb.block _ (Array.getElem?_eq_some_iff.1 HY5.out).1).trans HY5.out)
  obtain ⟨x60, x61, x62, x63, x64, x65, x66, x67, x68⟩ := vO24_cells HX6.out
  obtain ⟨y60, y61, y62, y63, y64, y65, y66, y67, y68⟩ := vO24_cells HY6.out
  clear hb
  go_wp2_with fail
  refine (C7.out _ HB6.out).mono ?_
  rintro e w7 ⟨rfl, hb⟩
  have HB7 : Hid (Below w.heap.size w w7) := Lib.hid (HB6.out.trans (hb.mono HB6.out.size))
  have HX7 : Hid (w7.heap[w.heap.size]? = some (vO24 x c)) := Lib.hid ((hb.block _ (Array.getElem?_eq_some_iff.1 HX6.out).1).trans HX6.out)
  have HY7 : Hid (w7.heap[w.heap.size + 1]? = some (vO24 x d)) := Lib.hid ((hb.block _ (Array.getElem?_eq_some_iff.1 HY6.out).1).trans HY6.out)
  obtain ⟨x70, x71, x72, x73, x74, x75, x76, x77, x78⟩ := vO24_cells HX7.out
  obtain ⟨y70, y71, y72, y73, y74, y75, y76, y77, y78⟩ := vO24_cells HY7.out
  clear hb
  go_wp2_with fail
  go_ret
  exact ⟨by simp, HB7.out⟩
set_option maxHeartbeats 2000000 in
set_option maxRecDepth 100000 in
theorem left_item (x : It) (c d : Cl) (w : World) (ok : Nat → Prop) (hx : TVal w ok c x.val) (hy : ValAt w w.heap.size d x.val) (hf : Few x.val) :
    Calls Tryz.prog 23 #[iV x c, iV x d] w fun e w' => e = .returned (.bool true) ∧ Below w.heap.size w w' := by
  have e2 : (x.key.toList == x.key.toList) = true := by simp
  have C3 : Hid (∀ W, Below w.heap.size w W → Calls Tryz.prog 79 #[.agg #[.int .u8 (x.val.kind : Int), .string x.val.text, c.lv, c.hv, c.sv, c.zv, c.ev, .int .u64 (x.val.ms : Int), .int .u64 (x.val.seq : Int)], .agg #[.int .u8 (x.val.kind : Int), .string x.val.text, d.lv, d.hv, d.sv, d.zv, d.ev, .int .u64 (x.val.ms : Int), .int .u64 (x.val.seq : Int)]] W fun e w' => e = .returned (.bool true) ∧ Below W.heap.size W w') := Lib.hid (fun W hW => left_value x.val c d W ok (hx.keep hW.size (fun r _ hr => hW.block r hr)) ((hy.below hW).more hW.size) hf)
  have HB2 : Hid (Below w.heap.size w ((w.alloc (iO x c)).alloc (iO x d))) := Lib.hid (((Below.refl _ w).alloc (Nat.le_refl _) _).alloc (by simp) _)
  have HX2 : Hid (((w.alloc (iO x c)).alloc (iO x d)).heap[w.heap.size]? = some (iO x c)) := Lib.hid ((Lib.alloc_old _ _ _ (by simp)).trans (heap_alloc_new w _))
  have HY2 : Hid (((w.alloc (iO x c)).alloc (iO x d)).heap[w.heap.size + 1]? = some (iO x d)) := Lib.hid (by have := heap_alloc_new (w.alloc (iO x c)) (iO x d); simpa using this)
  clear hx hy hf
  go_enter Tryz.func23, Tryz.ntmps23
  go_wp2_with fail
  refine (C3.out _ HB2.out).mono ?_
  rintro e w3 ⟨rfl, hb⟩
  have HB3 : Hid (Below w.heap.size w w3) := Lib.hid (HB2.out.trans (hb.mono HB2.out.size))
  have HX3 : Hid (w3.heap[w.heap.size]? = some (iO x c)) := Lib.hid ((hb.block _ (Array.getElem?_eq_some_iff.1 HX2.out).1).trans HX2.out)
  have HY3 : Hid (w3.heap[w.heap.size + 1]? = some (iO x d)) := Lib.hid ((hb.block _ (Array.getElem?_eq_some_iff.1 HY2.out).1).trans HY2.out)
  obtain ⟨_, _, _, _, _, _, _, _, _, _, _, x11⟩ := item_cell12 HX3.out
  obtain ⟨_, _, _, _, _, _, _, _, _, _, _, y11⟩ := item_cell12 HY3.out
  clear hb
  go_wp2_with fail
  go_ret
  exact ⟨by simp, HB3.out⟩
end Go.Proofs.YtpnmhldaaaemeaaGreat.Snp
