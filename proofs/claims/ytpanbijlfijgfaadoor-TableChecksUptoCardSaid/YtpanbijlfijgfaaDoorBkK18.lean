/- A book keeps a list of texts: keepText walked. -/
import Derived.Test.YtpanbijlfijgfaaDoorBkL18
import Derived.Test.YtpanbijlfijgfaaDoorPinL
namespace Go.Proofs.YtpanbijlfijgfaaDoor.Bok
open Go Go.RowKit Go.Proofs.YtpanbijlfijgfaaDoor.Pin
/-- a book that holds texts alone -/
def bookC (n : Nat) (sl : Value) : Array Value := #[.int .i64 (n : Int), .slice none 0 0, .slice none 0 0, sl, .slice none 0 0, .slice none 0 0, .slice none 0 0, .slice none 0 0, .slice none 0 0, .slice none 0 0]
def rowL (h : Hd) : List Value := [h.v, .slice none 0 0, .int .i64 (h.n : Int)]
structure BkK (w : World) (B b n : Nat) (sl : Value) (hs : List Hd) : Prop where
  top : w.heap[b]? = some (.cells (bookC n sl) 45 (0, 0))
  row : w.ownsRow B 71 3 sl hs.length (hs.flatMap rowL)
  off : sl.ownBlock ≠ some b
theorem hinfo_text : (Tryd.prog.info? 71).map (fun i => (i.zero, i.size, i.bytes)) = some (some (.agg #[.slice none 0 0, .slice none 0 0, .int .i64 0]), 3, 56) := by kernel_rfl
theorem writeAt_append {P : Program} {o : Oper} {a : Act} {K : Act → World → Prop} (w : World) (s x : Operand) (t : TypeId)
    (ho : o.op = .call { callee := .builtin .append, args := #[s, x], argTypes := #[t, t] })
    (base : Nat) (e : TypeId) (i : TypeInfo) (z : Value) (size bytes : Nat) (ht : P.underlying t = some (.slice e)) (hi : P.info? e = some i) (hz : i.zero = some z)
    (hsize : i.size = size) (hby : i.bytes = bytes) (hzs : z.cells.size = size) (hsz : 0 < size)
    (v : Value) (n : Nat) (xs : List Value) (hs : a.eval s = v) (hown : w.ownsRow base e size v n xs)
    (ad : Addr) (m c : Nat) (news : List Value) (hx : a.eval x = .slice (some ad) m c) (hl : news.length = m * size) (hm : 0 < m) (hnews : ∀ j u, news[j]? = some u → w.cell? (ad.add j) = some u) (h1 : ∀ u ∈ news, u.oneCell' = true)
    (h63 : n + m ≤ maxLen) (hbytes : (n + m) * bytes ≤ 140737488355328) (hbase : base ≤ w.heap.size)
    (h : ∀ v' w', w'.ownsRow base e size v' (n + m) (xs ++ news) → ((v'.ownBlock = v.ownBlock ∧ w.grownBy w' v.ownBlock) ∨ (∃ r, v'.ownBlock = some r ∧ w.heap.size ≤ r) ∧ w.grownBy w' none) → K (a.put o.dst v') w') : writeAt P o a K ((execOp a.eval o).run P w) := by
  obtain ⟨v', w', hr, h2, h3⟩ := append_own2 (P := P) w base t o.type e i z size bytes ht hi hz hsize hby hzs hsz v n xs hown ad m c news hl hm hnews h1 h63 hbytes hbase
  unfold execOp
  simp only [ho, resolve, invoke, builtin, Sem.run_bind, Sem.run_pure, Result.andThen_ok, List.map_toArray, List.map_cons, List.map_nil, hs, hx, hr]
  exact ⟨w', ⟨0, rfl⟩, h v' w' h2 h3⟩
set_option maxHeartbeats 4000000 in
set_option maxRecDepth 100000 in
theorem keep_text (B b n : Nat) (sl : Value) (hs : List Hd) (A : Option Addr) (len c : Nat) (w : World) (hK : BkK w B b n sl hs) (hm : hs.length ≤ 1048576) (hn : n ≤ 1048576) (hB : B ≤ w.heap.size) :
    Calls Tryd.prog 25 #[.pointer (some ⟨b, 0, none⟩), .slice A len c] w fun e w' => e = .returned (.tuple #[]) ∧ ∃ sl', BkK w' B b (n + 1) sl' (hs ++ [⟨.slice A len c, len, n + 1⟩]) ∧ Frm (fun r => r = b ∨ sl.ownBlock = some r) w w' ∧ (sl'.ownBlock = sl.ownBlock ∨ ∃ r, sl'.ownBlock = some r ∧ w.heap.size ≤ r) := by
  obtain ⟨i0, hi, hz0, hz1, hz2⟩ := info_parts hinfo_text
  have HI := Lib.hid hi
  have HZ0 := Lib.hid hz0
  have HZ1 := Lib.hid hz1
  have HZ2 := Lib.hid hz2
  have HK := Lib.hid hK
  have HM := Lib.hid hm
  have HBS := Lib.hid hB
  have c0 : w.cell? ⟨b, 0, none⟩ = some (.int .i64 (n : Int)) := by rw [Lib.cell_of_heap hK.top]; rfl
  have f0 : w.frozen? ⟨b, 0, none⟩ = false := Lib.frozen_of_heap hK.top 0
  obtain ⟨As, cs, hsl, _⟩ := row_slice hK.row
  clear hK hi hz0 hz1 hz2 hm hB
  go_enter Tryd.func25, Tryd.ntmps25
  have c3 : w.cell? ⟨b, 3, none⟩ = some (.slice As hs.length cs) := by rw [Lib.cell_of_heap HK.out.top, hsl]; rfl
  go_wp2_with fail
  obtain ⟨w1, hw1⟩ : ∃ w1, w1 = w.setCell ⟨b, 0, none⟩ (.int .i64 ((n : Int) + 1)) := ⟨_, rfl⟩
  have HT1 : Hid (w1.heap[b]? = some (.cells (bookC (n + 1) sl) 45 (0, 0))) := Lib.hid (by rw [hw1]; exact heap_setCell_same w b 0 _ _ _ HK.out.top)
  have HF1 : Hid (Frm (fun r => r = b) w w1) := Lib.hid (by rw [hw1]; exact (Frm.refl _).set _ _ (fun _ => rfl))
  have HR1 : Hid (w1.ownsRow B 71 3 (.slice As hs.length cs) hs.length (hs.flatMap rowL)) := Lib.hid (by rw [← hsl]; exact HF1.out.row HK.out.row (fun r hr e => HK.out.off (by rw [← e]; exact hr)))
  have d0 : w1.cell? ⟨b, 0, none⟩ = some (.int .i64 ((n : Int) + 1)) := by rw [Lib.cell_of_heap HT1.out]; rfl
  have d3 : w1.cell? ⟨b, 3, none⟩ = some (.slice As hs.length cs) := by rw [Lib.cell_of_heap HT1.out, hsl]; rfl
  have e3 : w1.frozen? ⟨b, 3, none⟩ = false := Lib.frozen_of_heap HT1.out 3
  rw [← hw1]
  clear hw1 c0 f0 c3
  refine wp_region_pinL (fun W => W.cell? ⟨b, 0, none⟩ = some (.int .i64 ((n : Int) + 1)) ∧ W.cell? ⟨b, 3, none⟩ = some (.slice As hs.length cs)) [0, 0, 0, 0, 0, 0, 0, 0, 0, 0, 0, 2, 2, 0, 0] (by kernel_rfl) (by kernel_rfl) (by kernel_rfl) (by kernel_rfl) (fun _ _ h => h) ⟨d0, d3⟩ ?_
  simp only [initL, lastL]
  (refine pin_pure (fun K hK => ?_); go_simp; refine hK _ _ ?_; clear hK K)
  (refine pin_pure (fun K hK => ?_); go_simp; refine hK _ _ ?_; clear hK K)
  (refine pin_pure (fun K hK => ?_); go_simp; refine hK _ _ ?_; clear hK K)
  (refine pin_pure (fun K hK => ?_); go_simp; refine hK _ _ ?_; clear hK K)
  (refine pin_fixed (fun K hK => ?_); go_simp; refine ⟨.slice As hs.length cs, fun w hs0 hs3 => ?_, hK _ _ ?_⟩; (go_simp); clear hK K)
  (refine pin_pure (fun K hK => ?_); go_simp; refine hK _ _ ?_; clear hK K)
  (refine pin_pure (fun K hK => ?_); go_simp; refine hK _ _ ?_; clear hK K)
  (refine pin_pure (fun K hK => ?_); go_simp; refine hK _ _ ?_; clear hK K)
  (refine pin_pure (fun K hK => ?_); go_simp; refine hK _ _ ?_; clear hK K)
  (refine pin_fixed (fun K hK => ?_); go_simp; refine ⟨.int .i64 ((n : Int) + 1), fun w hs0 hs3 => ?_, hK _ _ ?_⟩; (go_simp); clear hK K)
  (refine pin_pure (fun K hK => ?_); go_simp; refine hK _ _ ?_; clear hK K)
  have HA2 : Hid (Frm (fun _ => False) w1 (w1.alloc (.cells #[.slice A len c, .slice none 0 0, .int .i64 ((n : Int) + 1)] 71))) := Lib.hid ((Frm.refl _).alloc _)
  (refine pin_writeS (fun K hK => ?_); go_simp; intro nw; refine ⟨_, ⟨_, rfl⟩, hK _ _ ⟨HA2.out.cell d0 id, HA2.out.cell d3 id⟩ ?_⟩; clear hK K)
  obtain ⟨w2, hw2⟩ : ∃ w2, w2 = w1.alloc (.cells #[.slice A len c, .slice none 0 0, .int .i64 ((n : Int) + 1)] 71) := ⟨_, rfl⟩
  have HR2 : Hid (w2.ownsRow B 71 3 (.slice As hs.length cs) hs.length (hs.flatMap rowL)) := Lib.hid (by rw [hw2]; exact HR1.out.alloc _)
  have HN2 : Hid (∀ j u, ([.slice A len c, .slice none 0 0, .int .i64 ((n : Int) + 1)] : List Value)[j]? = some u → w2.cell? ((⟨w1.heap.size, 0, none⟩ : Addr).add j) = some u) := Lib.hid (by rw [hw2]; exact new_cells w1 [.slice A len c, .slice none 0 0, .int .i64 ((n : Int) + 1)] _)
  have HF2 : Hid (Frm (fun r => r = b) w w2) := Lib.hid (by rw [hw2]; exact HF1.out.alloc _)
  have g0 : w2.cell? ⟨b, 0, none⟩ = some (.int .i64 ((n : Int) + 1)) := by rw [hw2]; exact HA2.out.cell d0 id
  have g3 : w2.cell? ⟨b, 3, none⟩ = some (.slice As hs.length cs) := by rw [hw2]; exact HA2.out.cell d3 id
  have HT2 : Hid (w2.heap[b]? = some (.cells (bookC (n + 1) sl) 45 (0, 0))) := Lib.hid (by rw [hw2]; exact (heap_alloc_old w1 _ (Array.getElem?_eq_some_iff.1 HT1.out).1).trans HT1.out)
  have HS2 : Hid (w2.heap.size = w1.heap.size + 1) := Lib.hid (by rw [hw2]; simp)
  rw [← hw2]
  clear hw2 HA2 d0 d3
  (refine pin_writeS (fun K hK => ?_); intro nw2)
  have HR3 : Hid ((w2.drewN nw2).ownsRow B 71 3 (.slice As hs.length cs) hs.length (hs.flatMap rowL)) := Lib.hid (row_drewN HR2.out nw2)
  refine writeAt_append _ (.tmp 15) (.tmp 22) 37 rfl B 71 i0 (.agg #[.slice none 0 0, .slice none 0 0, .int .i64 0]) 3 56 Tryd.underlying37 HI.out HZ0.out HZ1.out HZ2.out rfl (by decide) _ _ _ rfl HR3.out ⟨w1.heap.size, 0, none⟩ 1 1 [.slice A len c, .slice none 0 0, .int .i64 ((n : Int) + 1)] rfl rfl Nat.one_pos ?c1 ?c2 ?c3 ?c4 ?c5 ?_
  case c1 => exact HN2.out
  case c2 => simp [Value.oneCell']
  case c3 => have := HM.out; unfold maxLen; omega
  case c4 => have := HM.out; omega
  case c5 =>
    have := HBS.out
    have := HF2.out.size
    show B ≤ w2.heap.size
    omega
  intro v3 w3 hown hgr
  have HF3 : Hid (Frm (fun r => r = b ∨ sl.ownBlock = some r) w w3) := Lib.hid (by
    have h0 : Frm (fun r => r = b ∨ sl.ownBlock = some r) w (w2.drewN nw2) := (HF2.out.mono (fun _ _ h => .inl h)).drewN nw2
    rcases hgr with ⟨_, k⟩ | ⟨_, k⟩
    · exact h0.grown k (fun r hr _ => .inr (by rw [hsl]; exact hr))
    · exact h0.grown k (fun r hr => by cases hr))
  have HT3 : Hid (w3.heap[b]? = some (.cells (bookC (n + 1) sl) 45 (0, 0))) := Lib.hid (by
    have hlt : b < (w2.drewN nw2).heap.size := (Array.getElem?_eq_some_iff.1 HT2.out).1
    have h2 : (w2.drewN nw2).heap[b]? = some (.cells (bookC (n + 1) sl) 45 (0, 0)) := HT2.out
    rcases hgr with ⟨_, k⟩ | ⟨_, k⟩
    · exact (k.block b hlt (fun e => HK.out.off (by rw [hsl]; exact e.symm))).trans h2
    · exact (k.block b hlt (fun e => by cases e)).trans h2)
  have HNB : Hid (v3.ownBlock ≠ some b ∧ (v3.ownBlock = sl.ownBlock ∨ ∃ r, v3.ownBlock = some r ∧ w.heap.size ≤ r)) := Lib.hid (by
    rw [hsl]
    have hlt : b < w.heap.size := (Array.getElem?_eq_some_iff.1 HK.out.top).1
    have h2 := HF2.out.size
    rcases hgr with ⟨k, _⟩ | ⟨⟨r, k, hr⟩, _⟩
    · exact ⟨by rw [k]; rw [← hsl]; exact HK.out.off, .inl k⟩
    · have hr2 : w2.heap.size ≤ r := hr
      exact ⟨by rw [k]; intro e; injection e with e; omega, .inr ⟨r, k, by omega⟩⟩)
  have e0 : w3.cell? ⟨b, 0, none⟩ = some (.int .i64 ((n : Int) + 1)) := by rw [Lib.cell_of_heap HT3.out]; rfl
  have e3' : w3.cell? ⟨b, 3, none⟩ = some (.slice As hs.length cs) := by rw [Lib.cell_of_heap HT3.out, hsl]; rfl
  obtain ⟨A3, c3, rfl, _⟩ := row_slice hown
  refine hK _ _ ⟨e0, e3'⟩ ?_
  clear hK K
  (refine pin_pure (fun K hK => ?_); go_simp; refine hK _ _ ?_; clear hK K)
  (refine pin_pure (fun K hK => ?_); go_simp; refine hK _ _ ?_; clear hK K)
  refine pin_nil ?_
  intro nq
  have f3 : (w3.drewN nq).frozen? ⟨b, 3, none⟩ = false := Lib.frozen_of_heap (w := w3.drewN nq) HT3.out 3
  go_wp2_with fail
  first | refine bodyPost_end (results_none rfl _ _ _) rfl ?_ | refine bodyPost_ret (results_none rfl _ _ _) rfl ?_
  have hset : Frm (fun r => r = b) w3 ((w3.setCell ⟨b, 3, none⟩ (.slice A3 (hs.length + 1) c3)).drewN nq) := ((Frm.refl (own := fun r => r = b) w3).set ⟨b, 3, none⟩ _ (fun _ => rfl)).drewN nq
  refine ⟨rfl, .slice A3 (hs.length + 1) c3, ⟨?_, ?_, HNB.out.1⟩, HF3.out.trans hset (fun _ _ h => .inl h), HNB.out.2⟩
  · show (w3.setCell ⟨b, 3, none⟩ (.slice A3 (hs.length + 1) c3)).heap[b]? = _
    exact heap_setCell_same w3 b 3 _ _ _ HT3.out
  · have h := hset.row hown (fun r hr e => HNB.out.1 (by rw [← e]; exact hr))
    rw [List.length_append, List.flatMap_append]
    exact h
end Go.Proofs.YtpanbijlfijgfaaDoor.Bok
