/- Chapter 07: a dict, and rows of texts of the call's own beside it. -/
import Derived.Test.YtnoalklbgncajaaDoorMp07
namespace Go.Proofs.YtnoalklbgncajaaDoor.Dct
open Go Go.MapKept Go.RowKit Go.Proofs.YtnoalklbgncajaaDoor.Pin Go.Proofs.YtnoalklbgncajaaDoor.Mps Go.Proofs.YtnoalklbgncajaaDoor.Bok Go.Proofs.YtnoalklbgncajaaDoor.Uw Go.Proofs.YtnoalklbgncajaaDoor.Sip
abbrev RowT := Value × List ByteArray
structure Rws (w0 w : World) (d : Nat) (s : St) (rs : List RowT) : Prop where
  dk : Dk w0.heap.size w d s
  bel : Below w0.heap.size w0 w
  row : ∀ r ∈ rs, w.ownsRow w0.heap.size 9 1 r.1 r.2.length (r.2.map Value.string)
  no : ∀ r ∈ rs, ∀ b, r.1.ownBlock = some b → b ∉ s.own d
  ne : rs.Pairwise (fun r q => ∀ b, r.1.ownBlock = some b → q.1.ownBlock ≠ some b)
section
variable {w0 w w' : World} {d : Nat} {s s' : St} {rs rs' : List RowT} {r q : RowT}
theorem Rws.perm (h : Rws w0 w d s rs) (hp : rs.Perm rs') : Rws w0 w d s rs' :=
  ⟨h.dk, h.bel, fun r hr => h.row r (hp.mem_iff.2 hr), fun r hr => h.no r (hp.mem_iff.2 hr), (hp.pairwise_iff (fun hxy b hb hx => hxy b hx hb)).1 h.ne⟩
theorem Rws.tail (h : Rws w0 w d s (r :: rs)) : Rws w0 w d s rs :=
  ⟨h.dk, h.bel, fun q hq => h.row q (List.mem_cons_of_mem _ hq), fun q hq => h.no q (List.mem_cons_of_mem _ hq), (List.pairwise_cons.1 h.ne).2⟩
theorem Rws.nil (h : Rws w0 w d s rs) : Rws w0 w d s ((.slice none 0 0, []) :: rs) :=
  ⟨h.dk, h.bel, fun q hq => by
    rcases List.mem_cons.1 hq with rfl | hq
    · exact World.ownsRow_nil _ _ _ _
    · exact h.row q hq, fun q hq b hb => by
    rcases List.mem_cons.1 hq with rfl | hq
    · cases hb
    · exact h.no q hq b hb, List.pairwise_cons.2 ⟨fun q _ b hb => (by cases hb), h.ne⟩⟩
theorem Rws.below (h : Rws w0 w d s rs) (hb : Below w.heap.size w w') : Rws w0 w' d s rs :=
  ⟨h.dk.below hb, h.bel.trans (hb.mono h.dk.bnd), fun r hr => (Frm.of_below (own := fun _ => False) hb).row (h.row r hr) (fun _ _ k => k), h.no, h.ne⟩
theorem Rws.dict (h : Rws w0 w d s rs) (ht : Trn w w' d s s') : Rws w0 w' d s' rs := by
  refine ⟨(h.dk.turn ht).1, h.bel.trans (h.dk.turn ht).2, fun r hr => ht.frm.row (h.row r hr) (h.no r hr), fun r hr b hb hm => ?_, h.ne⟩
  rcases ht.own b hm with h1 | h1
  · exact h.no r hr b hb h1
  · have := ((h.row r hr).lt b hb).2; omega
/-- a row that a call has just made -/
theorem Rws.add (h : Rws w0 w d s rs) (hb : Below w.heap.size w w') {v : Value} {L : List ByteArray} (hrow : w'.ownsRow w.heap.size 9 1 v L.length (L.map Value.string)) : Rws w0 w' d s ((v, L) :: rs) := by
  have h' := h.below hb
  have hlow : w'.ownsRow w0.heap.size 9 1 v L.length (L.map Value.string) := by
    refine ⟨hrow.1, ?_⟩
    rcases hrow.2 with k | ⟨g, cap, cur, e, hg, k⟩
    · exact .inl k
    · exact .inr ⟨g, cap, cur, e, Nat.le_trans h.dk.bnd hg, k⟩
  refine ⟨h'.dk, h'.bel, fun q hq => ?_, fun q hq b hbq hm => ?_, List.pairwise_cons.2 ⟨fun q hq b hb1 hb2 => ?_, h'.ne⟩⟩
  · rcases List.mem_cons.1 hq with rfl | hq
    · exact hlow
    · exact h'.row q hq
  · rcases List.mem_cons.1 hq with rfl | hq
    · have h1 := (hrow.lt b hbq).1
      have h2 := h.dk.at'.own_lt b hm
      omega
    · exact h'.no q hq b hbq hm
  · have h1 := (hrow.lt b hb1).1
    have h2 := ((h.row q hq).lt b hb2).2
    omega
/-- a text appended to the first row -/
theorem Rws.push {o : Obj} {v5 : Value} {w5 : World} {x : ByteArray} {v : Value} {L : List ByteArray} (h : Rws w0 w d s ((v, L) :: rs)) (hown : w5.ownsRow w0.heap.size 9 1 v5 (L.length + 1) (L.map Value.string ++ [.string x]))
    (hgr : (v5.ownBlock = v.ownBlock ∧ (w.alloc o).grownBy w5 v.ownBlock) ∨ (∃ r, v5.ownBlock = some r ∧ (w.alloc o).heap.size ≤ r) ∧ (w.alloc o).grownBy w5 none) : Rws w0 w5 d s ((v5, L ++ [x]) :: rs) := by
  obtain ⟨hF, hv⟩ := push_frm hgr
  obtain ⟨hn1, hn2⟩ := List.pairwise_cons.1 h.ne
  have hrow := h.row (v, L) List.mem_cons_self
  refine ⟨h.dk.frm hF (fun b hb e => h.no (v, L) List.mem_cons_self b e hb), h.bel.trans (below_of h.dk hF (fun b e => (hrow.lt b e).1)), fun q hq => ?_, fun q hq b hb hm => ?_, List.pairwise_cons.2 ⟨fun q hq b hb1 hb2 => ?_, hn2⟩⟩
  · rcases List.mem_cons.1 hq with rfl | hq
    · show w5.ownsRow w0.heap.size 9 1 v5 (L ++ [x]).length ((L ++ [x]).map Value.string)
      rw [List.length_append, List.map_append]; exact hown
    · exact hF.row (h.row q (List.mem_cons_of_mem _ hq)) (fun r hr e => hn1 q hq r e hr)
  · rcases List.mem_cons.1 hq with rfl | hq
    · rcases hv b hb with e | e
      · exact h.no (v, L) List.mem_cons_self b e hm
      · have := h.dk.at'.own_lt b hm; omega
    · exact h.no q (List.mem_cons_of_mem _ hq) b hb hm
  · rcases hv b hb1 with e | e
    · exact hn1 q hq b e hb2
    · have := ((h.row q (List.mem_cons_of_mem _ hq)).lt b hb2).2; omega
/-- a row read: its slice, its texts -/
theorem Rws.slice (h : Rws w0 w d s rs) (hr : r ∈ rs) : ∃ A c, r.1 = .slice A r.2.length c := by
  obtain ⟨A, c, e, _⟩ := row_slice (h.row r hr)
  exact ⟨A, c, e⟩
end
theorem row_txt {w : World} {B : Nat} {A : Option Addr} {n c : Nat} {L : List ByteArray} (h : w.ownsRow B 9 1 (.slice A n c) L.length (L.map Value.string)) : ∀ j (hj : j < L.length), ∃ g o, A = some ⟨g, o, none⟩ ∧ w.cell? ⟨g, o + j, none⟩ = some (.string L[j]) := by
  intro j hj
  rcases h.2 with ⟨h0, hn⟩ | ⟨g, cap, cur, e, hb, hg, _⟩
  · rw [hn] at hj; omega
  · have hA : A = some ⟨g, 0, none⟩ := by cases e; rfl
    have hn : n = L.length := by cases e; rfl
    subst hA
    subst hn
    refine ⟨g, 0, rfl, ?_⟩
    rw [Nat.zero_add, h.cellAt j (by omega)]
    simp [hj]
/-- a sorted row in which no text lies twice rises -/
theorem rises {L : List ByteArray} (hs : L.Pairwise (fun x y => x.data.toList ≤ y.data.toList)) (hn : L.Nodup) : ∀ i (h : i + 1 < L.length), Op.bytesLess (L[i]'(by omega)).toList (L[i + 1]).toList = true := fun i h => by
  have h1 := List.pairwise_iff_getElem.1 hs i (i + 1) (by omega) h (by omega)
  have h2 : L[i]'(by omega) ≠ L[i + 1] := fun e => List.pairwise_iff_getElem.1 hn i (i + 1) (by omega) h (by omega) e
  rw [bytesLess_eq, ByteArray.toList_eq, ByteArray.toList_eq]
  refine decide_eq_true ?_
  rcases List.le_iff_lt_or_eq.1 h1 with h3 | h3
  · exact h3
  · refine absurd ?_ h2
    exact (txt_eq _ _).1 (by rw [beq_iff_eq, ByteArray.toList_eq, ByteArray.toList_eq]; exact h3)
set_option maxHeartbeats 2000000 in
set_option maxRecDepth 100000 in
/-- a script that is not beyond the bound is short -/
theorem ops_small {w : World} {A : Option Addr} {c : Nat} (ts : List OpT) (hc : OpsAt w A ts) (hl : ts.length ≤ 281474976710656) :
    Calls Tryd.prog 5 #[.slice A ts.length c] w fun e w' => (e = .returned (.bool true) ∨ (e = .returned (.bool false) ∧ ts.length ≤ 5000)) ∧ w = w' := by
  have HC := Lib.hid hc
  clear hc
  go_enter Tryd.func5, Tryd.ntmps5
  go_wp2_with fail
  go_loop [3, 4] (fun v i => ∃ (k : Nat) (x : Int), k ≤ ts.length ∧ i = .int .i64 (k : Int) ∧ v = .int .i64 x) (fun _ i => ts.length - (intOf i).toNat)
  case atStart => exact ⟨0, 0, Nat.zero_le _, rfl, rfl⟩
  case round =>
    obtain ⟨k, x, hk, rfl, rfl⟩ := hrel
    by_cases hlt : (k : Int) < (ts.length : Int)
    · have hkl : k < ts.length := by omega
      obtain ⟨r, o, rfl, hr, hck0, hck, hck2, hck3⟩ := HC.out k hkl
      obtain ⟨y, hy⟩ : ∃ y, y = ts[k].2.1 := ⟨_, rfl⟩
      rw [← hy] at hck
      clear hy hck0 hck2 hck3
      obtain ⟨q, hq⟩ : ∃ q, q = wrap64 (wrap64 (x + 1) + (y.size : Int)) := ⟨_, rfl⟩
      by_cases hb : 1048576 < q
      · have hd : decide (1048576 < wrap64 (wrap64 (x + 1) + (y.size : Int))) = true := by rw [← hq]; exact decide_eq_true hb
        go_wp2_with fail
        go_ret
        exact ⟨.inl rfl, rfl⟩
      · have hd : decide (1048576 < wrap64 (wrap64 (x + 1) + (y.size : Int))) = false := by rw [← hq]; exact decide_eq_false hb
        go_wp2_with fail
        exact ⟨⟨k + 1, _, by omega, by go_num, rfl⟩, by simp [intOf]; omega⟩
    · by_cases h5 : (5000 : Int) < (ts.length : Int)
      · go_wp2_with fail
        go_ret
        exact ⟨.inl rfl, rfl⟩
      · have H5 : Hid (ts.length ≤ 5000) := Lib.hid (by omega)
        go_wp2_with fail
        go_ret
        exact ⟨.inr ⟨rfl, H5.out⟩, rfl⟩
end Go.Proofs.YtnoalklbgncajaaDoor.Dct
