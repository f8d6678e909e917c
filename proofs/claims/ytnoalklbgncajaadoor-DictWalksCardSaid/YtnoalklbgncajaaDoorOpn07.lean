/- Chapter 07: a slice of texts, a slice of ops: opened to their cells. -/
import Derived.Test.YtnoalklbgncajaaDoorDbo07
import Derived.Deep.Slices
import Derived.Deep.Fields
import Derived.ChangeSame
import Derived.ChangeSlices
import Derived.SliceStrings
import Derived.SizedLaws
import Derived.OpenShut
namespace Go.Proofs.YtnoalklbgncajaaDoor.Opm
open Go.RowKit Go.ChangeShapes Go.WideShapes Go.Deep Go.Proofs.YtnoalklbgncajaaDoor.Dct

theorem weights_all {H : Type} {P : Program} {e : TypeId} {d : DataW H} : ∀ {l : List (DataW H)}, d ∈ l → ∀ n ∈ d.weights P e, n ∈ DataW.weightsAll P e l
  | x :: l, h, n, hn => by
    simp only [DataW.weightsAll, List.mem_append]
    rcases List.mem_cons.1 h with rfl | h
    · exact .inl hn
    · exact .inr (weights_all h n hn)
set_option maxRecDepth 100000 in
theorem open_texts {H : Type} {enc : TypeId × Value → H} {w : World} {base : Nat} {held : Bool} {r : Reach} {b0 : Nat} {v : Value} {d : DataW H} {ps : List MemPlace}
    (hv : Value.okWide Tryd.prog w r b0 33 v) (h : DataW.Trod enc Tryd.prog w base (fun _ => true) held 33 v d ps) (hz : ∀ n ∈ d.weights Tryd.prog 33, n ≤ reachBytes) :
    ∃ p ss cap, v = .slice p ss.length cap ∧ TxAt w p ss ∧ ss.length ≤ 140737488351232 ∧ ∀ s ∈ ss, s.size ≤ 140737488351232 := by
  obtain ⟨p, len, cap, rfl⟩ := okWide_slice Tryd.underlying33 hv
  obtain ⟨fuel, hf⟩ := h
  rcases open_strings Tryd.underlying33 Tryd.underlying9 (by kernel_rfl) hf with ⟨h0, _⟩ | ⟨a, l, c, ss, hcs, hb, hl, hm, hlen, hx, hc, _⟩
  · simp [Value.cells] at h0
    obtain ⟨rfl, rfl, rfl⟩ := h0
    exact ⟨none, [], 0, rfl, fun i hi => absurd hi (Nat.not_lt_zero _), Nat.zero_le _, fun s hs => by cases hs⟩
  · simp [Value.cells] at hcs
    obtain ⟨rfl, rfl, rfl⟩ := hcs
    rw [if_pos rfl] at hlen
    have htl : (ss.take len).length = len := by rw [List.length_take]; omega
    have hd : d = .slice (strs (ss.take len)) (strs (ss.drop len)) := congrArg Prod.fst hx
    rw [hd] at hz
    have eb : Tryd.prog.bytesOf 9 = 16 := by kernel_rfl
    have hz1 := hz (((strs (ss.take len) : List (DataW H)).length + (strs (ss.drop len) : List (DataW H)).length) * Tryd.prog.bytesOf 9) (by simp [DataW.weights, Tryd.underlying33])
    have e1 : (strs (ss.take len) : List (DataW H)).length = len := by simp only [strs, List.length_map]; exact htl
    rw [eb, e1] at hz1
    unfold reachBytes at hz1
    refine ⟨some a, ss.take len, cap, by rw [htl], ?_, by rw [htl]; omega, ?_⟩
    · intro i hi
      have hi2 : i < len := by rw [htl] at hi; exact hi
      have h0 := hc 0 (by omega)
      obtain ⟨e, sz, hsh, _, hsp⟩ := World.shape?_of_cell? h0
      have hadd : a.add 0 = a := by simp [Addr.add]
      rw [hadd] at h0 hsp hsh
      obtain ⟨g, o, s⟩ := a
      simp at hsp
      subst hsp
      refine ⟨g, o, rfl, World.block_lt_of_cell? _ _ h0, ?_⟩
      have h1 := hc i (by omega)
      rw [Addr.add_lit] at h1
      rw [h1]
      have : i < ss.length := by omega
      simp [List.getD, this]
    · intro s hs
      have hm : (.lit (.string s.data.toList) : DataW H) ∈ (strs (ss.take len) : List (DataW H)) := List.mem_map.2 ⟨s, hs, rfl⟩
      have h2 := hz s.data.toList.length (by
        simp only [DataW.weights, Tryd.underlying33, List.mem_cons, List.mem_append]
        exact .inr (.inl (weights_all hm _ (by simp [DataW.weights]))))
      rw [Array.length_toList] at h2
      exact h2
section
variable {H : Type} {enc : TypeId × Value → H} {P : Program} {w : World} {base : Nat} {spare : Nat → Bool} {held : Bool}
theorem open_slice_fields {t e : TypeId} {fs : Array Field} {fuel : Nat} {cs : List Value} {x : DataW H × List MemPlace} (ht : P.underlying t = some (.slice e)) (he : P.underlying e = some (.struct fs))
    (hone : oneCellFields P fs = true) (hC : P.cellsOf e = fs.size) (h : DataW.trod enc P w base spare held fuel t cs = some x) :
    (cs = [.slice none 0 0] ∧ x = (.nil, [])) ∨
    ∃ (a : Addr) (len cap m : Nat) (D : Nat → DataW H) (Pl : Nat → List MemPlace), cs = [.slice (some a) len cap] ∧ base ≤ a.block ∧ len ≤ cap ∧ cap ≤ maxLen ∧ m = (if spare a.block then cap else len) ∧
      x = (.slice ((List.range len).map D) ((List.range (m - len)).map fun j => D (len + j)), MemPlace.row a (m * fs.size) ++ (List.range m).flatMap Pl) ∧
      ∀ i, i < m → ∃ (ys : List (DataW H × List MemPlace)) (n : Nat), D i = .agg (ys.map (·.1)) ∧ Pl i = ys.flatMap (·.2) ∧ ys.length = fs.size ∧
        ∀ (j : Nat) (f : Field), fs[j]? = some f → ∃ (v : Value) (y : DataW H × List MemPlace), w.cell? (a.add (i * fs.size + j)) = some v ∧ ys[j]? = some y ∧ DataW.trod enc P w base spare held n f.type [v] = some y := by
  rcases open_slice ht h with h0 | ⟨a, len, cap, m, n, D, Pl, hcs, hb, hl, hm, hmm, hx, hi⟩
  · exact .inl h0
  · refine .inr ⟨a, len, cap, m, D, Pl, hcs, hb, hl, hm, hmm, by rw [hC] at hx; exact hx, fun i him => ?_⟩
    obtain ⟨cs', hc, ht'⟩ := hi i him
    rw [hC] at hc
    obtain ⟨ys, n', hn', hy, hlen, hyl, hf⟩ := DataW.trod_struct he ht'
    obtain ⟨_, hcl, hat⟩ := World.cells?_some hc
    simp only [Prod.mk.injEq] at hy
    refine ⟨ys, n', hy.1, hy.2, hyl, fun j f hj => ?_⟩
    obtain ⟨ho, hk⟩ := hone_of hone j f hj
    have hjl : j < fs.size := (Array.getElem?_eq_some_iff.1 hj).1
    have hcell := hat j hjl
    have hv : cs'[j]? = some (cs'[j]'(by omega)) := List.getElem?_eq_getElem (by omega)
    have h1 := hf j f hj
    rw [ho, hk] at h1
    have hone' : (cs'.drop j).take 1 = [cs'[j]'(by omega)] := by
      rw [List.drop_eq_getElem_cons (by omega)]
      rfl
    rw [hone'] at h1
    have hys : ys[j]? = some (ys[j]'(by omega)) := List.getElem?_eq_getElem (by omega)
    refine ⟨_, _, ?_, hys, h1.trans hys⟩
    rw [← Go.Deep.add_add, hcell, hv]
end
theorem weights_each {H : Type} {P : Program} : ∀ {ts : List TypeId} {ds : List (DataW H)} {j : Nat} {t : TypeId} {d : DataW H}, ts[j]? = some t → ds[j]? = some d → ∀ n ∈ d.weights P t, n ∈ DataW.weightsEach P ts ds := DataW.weights_mem_each
theorem split_addr {w : World} {a : Addr} {v : Value} (h : w.cell? (a.add 0) = some v) : ∃ g o, a = ⟨g, o, none⟩ ∧ g < w.heap.size := by
  obtain ⟨e, sz, hsh, _, hsp⟩ := World.shape?_of_cell? h
  have hadd : a.add 0 = a := by simp [Addr.add]
  rw [hadd] at h hsp hsh
  obtain ⟨g, o, s⟩ := a
  simp at hsp
  subst hsp
  exact ⟨g, o, rfl, World.block_lt_of_cell? _ _ h⟩
set_option maxRecDepth 100000 in
theorem ops_of {H : Type} {enc : TypeId × Value → H} {w : World} {base fuel : Nat} {held : Bool} {v : Value} {d : DataW H} {ps : List MemPlace}
    (hf : DataW.trod enc Tryd.prog w base (fun _ => true) held fuel 23 [v] = some (d, ps)) (hz : ∀ n ∈ d.weights Tryd.prog 23, n ≤ reachBytes) :
    ∃ (p : Option Addr) (ts : List OpT) (cap : Nat), v = .slice p ts.length cap ∧ OpsAt w p ts ∧ (∀ t ∈ ts, t.1 < 256) ∧ ts.length ≤ 140737488351232 ∧ ∀ t ∈ ts, t.2.1.size ≤ 140737488351232 ∧ (-9223372036854775808 ≤ t.2.2.1 ∧ t.2.2.1 ≤ 9223372036854775807) ∧ ∃ z : Int, t.2.2.2 = .int .u64 z := by
  rcases open_slice_fields Tryd.underlying23 Tryd.underlying36 (by kernel_rfl) (by kernel_rfl) hf with ⟨h0, _⟩ | ⟨a, len, cap, m, D, Pl, hcs, hb, hl, hm, hmm, hx, hi⟩
  · obtain rfl : v = .slice none 0 0 := by simpa using h0
    exact ⟨none, [], 0, rfl, fun i hi => absurd hi (Nat.not_lt_zero _), (fun s hs => by cases hs), Nat.zero_le _, (fun s hs => by cases hs)⟩
  · obtain rfl : v = .slice (some a) len cap := by simpa using hcs
    rw [if_pos rfl] at hmm
    have hd : d = .slice ((List.range len).map D) ((List.range (m - len)).map fun j => D (len + j)) := congrArg Prod.fst hx
    rw [hd] at hz
    have eb : Tryd.prog.bytesOf 36 = 40 := by kernel_rfl
    have hz1 := hz _ (by simp only [DataW.weights, Tryd.underlying23]; exact List.mem_cons_self)
    rw [eb] at hz1
    simp only [List.length_map, List.length_range] at hz1
    unfold reachBytes at hz1
    have hz2 : ∀ i, i < len → ∀ n ∈ (D i).weights Tryd.prog 36, n ≤ reachBytes := fun i hi n hn => hz n (by
      simp only [DataW.weights, Tryd.underlying23, List.mem_cons, List.mem_append]
      exact .inr (.inl (weights_all (List.mem_map.2 ⟨i, List.mem_range.2 hi, rfl⟩) n hn)))
    have each : ∀ i, ∃ t : OpT, i < len → ((∃ g o, a = ⟨g, o, none⟩ ∧ g < w.heap.size) ∧ t.1 < 256 ∧ t.2.1.size ≤ 140737488351232 ∧ w.cell? (a.add (i * 4)) = some (.int .u8 (t.1 : Int)) ∧ w.cell? (a.add (i * 4 + 1)) = some (.string t.2.1) ∧ w.cell? (a.add (i * 4 + 2)) = some (.int .i64 t.2.2.1) ∧ (-9223372036854775808 ≤ t.2.2.1 ∧ t.2.2.1 ≤ 9223372036854775807) ∧ w.cell? (a.add (i * 4 + 3)) = some t.2.2.2 ∧ ∃ z : Int, t.2.2.2 = .int .u64 z) := by
      intro i
      by_cases hlt : i < len
      · obtain ⟨ys, n, hD, hP, hyl, hfl⟩ := hi i (by omega)
        obtain ⟨v0, y0, c0, k0, t0⟩ := hfl 0 _ rfl
        obtain ⟨v1, y1, c1, k1, t1⟩ := hfl 1 _ rfl
        obtain ⟨v2, y2, c2, k2, t2⟩ := hfl 2 _ rfl
        obtain ⟨v3, y3, c3, k3, t3⟩ := hfl 3 _ rfl
        obtain ⟨x0, hx0, _, hw0⟩ := DataW.trod_int Tryd.underlying5 t0
        obtain ⟨x1, hx1, hy1, _⟩ := DataW.trod_string Tryd.underlying9 t1
        obtain ⟨x2, hx2, _, hw2⟩ := DataW.trod_int Tryd.underlying3 t2
        obtain ⟨x3, hx3, _, _⟩ := DataW.trod_int Tryd.underlying22 t3
        simp only [List.cons.injEq, and_true] at hx0 hx1 hx2 hx3
        subst hx0 hx1 hx2 hx3
        have hw2' := hw2
        have e3 : IntKind.i64.min = -9223372036854775808 := rfl
        have e4 : IntKind.i64.max = 9223372036854775807 := rfl
        simp [Lit.wf, e3, e4] at hw2'
        have hw := hw0
        have e1 : IntKind.u8.min = 0 := rfl
        have e2 : IntKind.u8.max = 255 := rfl
        simp [Lit.wf, e1, e2] at hw
        have e0 : (x0.toNat : Int) = x0 := by omega
        have hs : x1.size ≤ 140737488351232 := by
          have h1 := hz2 i hlt x1.data.toList.length (by
            rw [hD]
            simp only [DataW.weights, Tryd.underlying36]
            exact weights_each (j := 1) rfl (by rw [List.getElem?_map, k1, hy1]; rfl) _ (by simp [DataW.weights]))
          rw [Array.length_toList] at h1
          exact h1
        have hz0 := hi 0 (by omega)
        obtain ⟨_, _, _, _, _, hf0⟩ := hz0
        obtain ⟨_, _, cz, _, _⟩ := hf0 0 _ rfl
        refine ⟨(x0.toNat, x1, x2, .int .u64 x3), fun _ => ⟨split_addr (by simpa using cz), by omega, hs, ?_, c1, c2, by omega, c3, x3, rfl⟩⟩
        rw [e0]
        exact c0
      · exact ⟨(0, ⟨#[]⟩, 0, undef), fun h => absurd h hlt⟩
    obtain ⟨f, hfa⟩ := Classical.axiomOfChoice each
    have htl : ((List.range len).map f).length = len := by simp
    refine ⟨some a, (List.range len).map f, cap, by rw [htl], ?_, ?_, by rw [htl]; omega, ?_⟩
    · intro j hj
      have hj2 : j < len := by rw [htl] at hj; exact hj
      obtain ⟨⟨g, o, rfl, hg⟩, _, _, h1, h2, h3, _, h4, _⟩ := hfa j hj2
      have e : ((List.range len).map f)[j] = f j := by simp
      rw [e]
      simp only [Addr.add_lit] at h1 h2 h3 h4
      exact ⟨g, o, rfl, hg, h1, h2, h3, h4⟩
    · intro t ht
      obtain ⟨i, hi, rfl⟩ := List.mem_map.1 ht
      exact (hfa i (List.mem_range.1 hi)).2.1
    · intro t ht
      obtain ⟨i, hi, rfl⟩ := List.mem_map.1 ht
      obtain ⟨_, _, h1, _, _, _, h2, _, h3⟩ := hfa i (List.mem_range.1 hi)
      exact ⟨h1, h2, h3⟩
theorem open_ops {H : Type} {enc : TypeId × Value → H} {w : World} {base : Nat} {held : Bool} {r : Reach} {b0 : Nat} {v : Value} {d : DataW H} {ps : List MemPlace}
    (hv : Value.okWide Tryd.prog w r b0 23 v) (h : DataW.Trod enc Tryd.prog w base (fun _ => true) held 23 v d ps) (hz : ∀ n ∈ d.weights Tryd.prog 23, n ≤ reachBytes) :
    ∃ (p : Option Addr) (ts : List OpT) (cap : Nat), v = .slice p ts.length cap ∧ OpsAt w p ts ∧ (∀ t ∈ ts, t.1 < 256) ∧ ts.length ≤ 140737488351232 ∧ ∀ t ∈ ts, t.2.1.size ≤ 140737488351232 ∧ (-9223372036854775808 ≤ t.2.2.1 ∧ t.2.2.1 ≤ 9223372036854775807) ∧ ∃ z : Int, t.2.2.2 = .int .u64 z := by
  obtain ⟨p, len, cap, rfl⟩ := okWide_slice Tryd.underlying23 hv
  obtain ⟨fuel, hf⟩ := h
  exact ops_of hf hz
set_option maxRecDepth 100000 in
theorem open_walk {H : Type} {enc : TypeId × Value → H} {w : World} {base : Nat} {held : Bool} {r : Reach} {b0 : Nat} {v : Value} {d : DataW H} {ps : List MemPlace}
    (hv : Value.okWide Tryd.prog w r b0 25 v) (h : DataW.Trod enc Tryd.prog w base (fun _ => true) held 25 v d ps) (hz : ∀ n ∈ d.weights Tryd.prog 25, n ≤ reachBytes) :
    ∃ (s nk ns ne : Int) (p : Option Addr) (ts : List OpT) (cap : Nat), v = .agg #[.int .u64 s, .int .u8 nk, .int .u8 ns, .int .u8 ne, .slice p ts.length cap] ∧ (Lit.int .u64 s).wf = true ∧ (0 ≤ nk ∧ nk ≤ 255) ∧ (0 ≤ ns ∧ ns ≤ 255) ∧ (0 ≤ ne ∧ ne ≤ 255) ∧ OpsAt w p ts ∧ ts.length ≤ 140737488351232 ∧ ∀ t ∈ ts, t.2.1.size ≤ 140737488351232 ∧ (-9223372036854775808 ≤ t.2.2.1 ∧ t.2.2.1 ≤ 9223372036854775807) ∧ ∃ z : Int, t.2.2.2 = .int .u64 z := by
  obtain ⟨cs, rfl, hsz⟩ := okWide_struct Tryd.underlying25 hv
  obtain ⟨l⟩ := cs
  have hC : Tryd.prog.cellsOf 25 = 5 := by kernel_rfl
  match l, hsz.trans hC with
  | [c0, c1, c2, c3, c4], _ =>
    obtain ⟨fuel, hf⟩ := h
    obtain ⟨ys, n', _, hx, _, hyl, hg⟩ := DataW.trod_struct Tryd.underlying25 hf
    have g0 := hg 0 _ rfl
    have g1 := hg 1 _ rfl
    have g2 := hg 2 _ rfl
    have g3 := hg 3 _ rfl
    have g4 := hg 4 _ rfl
    have e8 : Tryd.prog.cellsOf 5 = 1 := by kernel_rfl
    have e64 : Tryd.prog.cellsOf 22 = 1 := by kernel_rfl
    have eo : Tryd.prog.cellsOf 23 = 1 := by kernel_rfl
    match ys, hyl with
    | [y0, y1, y2, y3, y4], _ =>
      replace g0 : DataW.trod enc Tryd.prog w base (fun _ => true) held n' 22 [c0] = some y0 := by simpa [e8, e64, eo, Value.cells] using g0
      replace g1 : DataW.trod enc Tryd.prog w base (fun _ => true) held n' 5 [c1] = some y1 := by simpa [e8, e64, eo, Value.cells] using g1
      replace g2 : DataW.trod enc Tryd.prog w base (fun _ => true) held n' 5 [c2] = some y2 := by simpa [e8, e64, eo, Value.cells] using g2
      replace g3 : DataW.trod enc Tryd.prog w base (fun _ => true) held n' 5 [c3] = some y3 := by simpa [e8, e64, eo, Value.cells] using g3
      replace g4 : DataW.trod enc Tryd.prog w base (fun _ => true) held n' 23 [c4] = some y4 := by simpa [e8, e64, eo, Value.cells] using g4
      obtain ⟨x0, h0, _, w0⟩ := DataW.trod_int Tryd.underlying22 g0
      obtain ⟨x1, h1, _, w1⟩ := DataW.trod_int Tryd.underlying5 g1
      obtain ⟨x2, h2, _, w2⟩ := DataW.trod_int Tryd.underlying5 g2
      obtain ⟨x3, h3, _, w3⟩ := DataW.trod_int Tryd.underlying5 g3
      simp only [List.cons.injEq, and_true] at h0 h1 h2 h3
      subst h0 h1 h2 h3
      simp only [Prod.mk.injEq] at hx
      have hd : d = .agg [y0.1, y1.1, y2.1, y3.1, y4.1] := by simpa using hx.1
      obtain ⟨p, ts, cap, rfl, hT, _, hl, hs⟩ := ops_of (d := y4.1) (ps := y4.2) g4 (fun n hn => hz n (by
        rw [hd]
        simp only [DataW.weights, Tryd.underlying25]
        exact weights_each (j := 4) rfl rfl _ hn))
      have u8 : ∀ x : Int, (Lit.int .u8 x).wf = true → 0 ≤ x ∧ x ≤ 255 := fun x hw => by
        have e1 : IntKind.u8.min = 0 := rfl
        have e2 : IntKind.u8.max = 255 := rfl
        simp [Lit.wf, e1, e2] at hw
        omega
      exact ⟨x0, x1, x2, x3, p, ts, cap, rfl, w0, u8 _ w1, u8 _ w2, u8 _ w3, hT, hl, hs⟩
end Go.Proofs.YtnoalklbgncajaaDoor.Opm
