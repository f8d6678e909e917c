/- The walk of FileMoves: it answers true. -/
import Derived.Test.YtjjcicfilbfbjaaSame04
namespace Go.Proofs.Ytjjcicfilbfbjaa.FileMoves
open Go.RowKit Go.Maps Go.Sort Go.Proofs.Ytjjcicfilbfbjaa.Pin Go.Proofs.Ytjjcicfilbfbjaa.Gon Go.Proofs.Ytjjcicfilbfbjaa.Mps Go.Proofs.Ytjjcicfilbfbjaa.Dsk

theorem fineN {C : Int} {l : List Abs} (ns : List ByteArray) (hn : l.map (·.1) = ns) (h1 : ns.Nodup) (h2 : ∀ n ∈ ns, n.size ≤ 255) (h3 : ∀ a ∈ l, a.2.2 ≤ a.2.1.size) (h4 : (tot l : Int) ≤ C) (h5 : C ≤ 1073741824) (h6 : l.length ≤ 1000000) : Fine C l :=
  ⟨by rw [hn]; exact h1, fun a ha => h2 _ (by rw [← hn]; exact List.mem_map.2 ⟨a, ha, rfl⟩), h3, h4, h5, h6⟩
theorem fine2 {C : Int} {n1 n2 a b : ByteArray} {d e : Nat} (hn : [n1, n2].Nodup) (h0 : ∀ n ∈ [n1, n2], n.size ≤ 255) (h1 : d ≤ a.size) (h2 : e ≤ b.size) (hs : (a.size : Int) + b.size ≤ C) (hC : C ≤ 1073741824) : Fine C [(n1, a, d), (n2, b, e)] :=
  fineN [n1, n2] rfl hn h0 (by
    intro y hy
    simp only [List.mem_cons, List.not_mem_nil, or_false] at hy
    rcases hy with rfl | rfl
    · exact h1
    · exact h2) (by simp [tot]; omega) hC (by simp)
theorem fine3 {C : Int} {n1 n2 n3 a b x : ByteArray} {d e z : Nat} (hn : [n1, n2, n3].Nodup) (h0 : ∀ n ∈ [n1, n2, n3], n.size ≤ 255) (h1 : d ≤ a.size) (h2 : e ≤ b.size) (h3 : z ≤ x.size) (hs : (a.size : Int) + b.size + x.size ≤ C) (hC : C ≤ 1073741824) : Fine C [(n1, a, d), (n2, b, e), (n3, x, z)] :=
  fineN [n1, n2, n3] rfl hn h0 (by
    intro y hy
    simp only [List.mem_cons, List.not_mem_nil, or_false] at hy
    rcases hy with rfl | rfl | rfl
    · exact h1
    · exact h2
    · exact h3) (by simp [tot]; omega) hC (by simp)
theorem names_cb (a b : ByteArray) (d e : Nat) : namesL [((⟨#[99]⟩, a, d) : Abs), (⟨#[98]⟩, b, e)] = [[98], [99]] := by
  unfold namesL
  show [[99], [98]].mergeSort leB = _
  have hp : ([[99], [98]] : List (List UInt8)).Perm [[98], [99]] := List.Perm.swap _ _ _
  rw [mergeSort_of_perm hp]
  refine List.mergeSort_of_pairwise ?_
  decide
theorem walk (a b c more : ByteArray) (ha : a.size ≤ 140737488351232) (hb : b.size ≤ 140737488351232) (hc : c.size ≤ 140737488351232) (hm : more.size ≤ 140737488351232) (w : World) :
    Calls Try.prog 5 #[.agg #[.string a, .string b, .string c, .string more]] w fun e w' => e = .returned (.bool true) ∧ Below w.heap.size w w' := by
  go_enter Try.func5, Try.ntmps5
  go_wp2_with fail
  refine wp_region_q [0,1,0,1,0,1,0,1,0,0,0,0] (by kernel_rfl) (by kernel_rfl) ?_
  (refine q_pure_n rfl (fun K hK => ?_); go_simp; refine hK _ _ ?_; clear hK K)
  (refine q_read_n rfl (fun K hK => ?_); go_simp; refine hK _ _ ?_; clear hK K)
  (refine q_pure_n rfl (fun K hK => ?_); go_simp; refine hK _ _ ?_; clear hK K)
  (refine q_read_n rfl (fun K hK => ?_); go_simp; refine hK _ _ ?_; clear hK K)
  (refine q_pure_n rfl (fun K hK => ?_); go_simp; refine hK _ _ ?_; clear hK K)
  (refine q_read_n rfl (fun K hK => ?_); go_simp; refine hK _ _ ?_; clear hK K)
  (refine q_pure_n rfl (fun K hK => ?_); go_simp; refine hK _ _ ?_; clear hK K)
  (refine q_read_n rfl (fun K hK => ?_); go_simp; refine hK _ _ ?_; clear hK K)
  (refine q_pure_n rfl (fun K hK => ?_); go_simp; refine hK _ _ ?_; clear hK K)
  (refine q_pure_n rfl (fun K hK => ?_); go_simp; refine hK _ _ ?_; clear hK K)
  (refine q_pure_n rfl (fun K hK => ?_); go_simp; refine hK _ _ ?_; clear hK K)
  (refine q_pure_n rfl (fun K hK => ?_); go_simp; refine hK _ _ ?_; clear hK K)
  refine q_nil ?_
  intro nq
  go_wp2_with fail
  obtain ⟨W, hW⟩ : ∃ W, W = (w.alloc (Obj.cells #[Value.string a, Value.string b, Value.string c, Value.string more] 47)).drewN nq := ⟨_, rfl⟩
  have HB0 : Hid (Below w.heap.size w W) := by rw [hW]; exact Lib.hid (below_drewN ((Below.refl _ w).alloc (Nat.le_refl _) _) _)
  rw [← hW]
  clear hW
  refine (alive_any W).mono ?_
  rintro e w1 ⟨rfl, hb1⟩
  have HB1 : Hid (Below w.heap.size w w1) := Lib.hid (HB0.out.trans (hb1.mono HB0.out.size))
  clear hb1 HB0
  go_wp2_with fail
  have hcl : ∀ j (h : j < [(a.size : Int), b.size, c.size, more.size].length), (w1.alloc (.cells #[.int .i64 (a.size : Int), .int .i64 (b.size : Int), .int .i64 (c.size : Int), .int .i64 (more.size : Int)] 3)).cell? ⟨w1.heap.size, j, none⟩ = some (.int .i64 ([(a.size : Int), b.size, c.size, more.size][j])) := by
    intro j hj
    rw [Lib.cell_of_heap (heap_alloc_last _ _)]
    match j, hj with
    | 0, _ => rfl
    | 1, _ => rfl
    | 2, _ => rfl
    | 3, _ => rfl
  refine (Bey.beyond_any [(a.size : Int), b.size, c.size, more.size] 4 w1.heap.size _ (by simp) (by intro x hx; simp only [List.mem_cons, List.not_mem_nil, or_false] at hx; rcases hx with rfl | rfl | rfl | rfl <;> omega) hcl).mono ?_
  rintro e w' ⟨rfl, rfl⟩
  clear hcl
  have HB2 : Hid (Below w.heap.size w (w1.alloc (.cells #[.int .i64 (a.size : Int), .int .i64 (b.size : Int), .int .i64 (c.size : Int), .int .i64 (more.size : Int)] 3))) := Lib.hid (HB1.out.alloc HB1.out.size _)
  obtain ⟨W2, hW2⟩ : ∃ W2, W2 = w1.alloc (.cells #[.int .i64 (a.size : Int), .int .i64 (b.size : Int), .int .i64 (c.size : Int), .int .i64 (more.size : Int)] 3) := ⟨_, rfl⟩
  rw [← hW2] at HB2 ⊢
  clear hW2 HB1
  cases hbe : Bey.beyond 0 [(a.size : Int), b.size, c.size, more.size] with
  | true =>
    go_wp2_with fail
    refine (alive_any W2).mono ?_
    rintro e w3 ⟨rfl, hb3⟩
    have HB3 : Hid (Below w.heap.size w w3) := Lib.hid (HB2.out.trans (hb3.mono HB2.out.size))
    clear hb3 hbe
    go_wp2_with fail
    go_ret
    exact ⟨rfl, HB3.out⟩
  | false =>
    have hsum := bey4 hbe
    clear hbe
    go_wp2_with fail
    refine (new_d 8388608 W2 (by decide) (by decide)).mono ?_
    rintro e w3 ⟨g, rfl, hd, hb⟩
    have HD3 : Hid (Dk w3 W2.heap.size g 8388608 (-1) []) := Lib.hid hd
    have HB3 : Hid (Below W2.heap.size W2 w3) := Lib.hid hb
    clear hd hb
    go_wp2_with fail
    refine (append_n W2.heap.size g 8388608 (-1) [] ⟨#[97]⟩ a w3 HD3.out HB3.out.size (fine0 (by decide) (by decide)) (by simp) (by decide) (by decide) (by decide) (by decide) (by simp [tot]; omega)).mono ?_
    rintro e w4 ⟨rfl, hd, hb⟩
    have HD4 : Hid (Dk w4 W2.heap.size g 8388608 (-1) [(⟨#[97]⟩, a, 0)]) := Lib.hid hd
    have HB4 := Lib.hid (HB3.out.trans hb)
    clear hd hb
    go_wp2_with fail
    refine (sync_d W2.heap.size g 8388608 (-1) [] (⟨#[97]⟩, a, 0) [] w4 HD4.out HB4.out.size (fine1 (by decide) (by omega) (by omega) (by decide)) (by decide) (by decide)).mono ?_
    rintro e w5 ⟨rfl, hd, hb⟩
    have HD5 : Hid (Dk w5 W2.heap.size g 8388608 (-1) [(⟨#[97]⟩, a, a.size)]) := Lib.hid hd
    have HB5 := Lib.hid (HB4.out.trans hb)
    clear hd hb
    go_wp2_with fail
    refine (append_d W2.heap.size g 8388608 (-1) [] (⟨#[97]⟩, a, a.size) [] more w5 HD5.out HB5.out.size (fine1 (by decide) (by omega) (by omega) (by decide)) (show 0 < (⟨#[97]⟩ : ByteArray).size from by decide) (by decide) (by decide) (by simp [tot]; omega)).mono ?_
    rintro e w6 ⟨rfl, hd, hb⟩
    have HD6 : Hid (Dk w6 W2.heap.size g 8388608 (-1) [(⟨#[97]⟩, a ++ more, a.size)]) := Lib.hid hd
    have HB6 := Lib.hid (HB5.out.trans hb)
    clear hd hb
    have ham : (a ++ more).size = a.size + more.size := size_append _ _
    obtain ⟨am, ham2⟩ : ∃ am, am = a ++ more := ⟨_, rfl⟩
    rw [← ham2] at HD6 ham
    have HAM := Lib.hid ham2
    have ham3 : am.size ≤ a.size + more.size := by omega
    have ham4 : a.size ≤ am.size := by omega
    clear ham ham2
    go_wp2_with fail
    refine (append_n W2.heap.size g 8388608 (-1) _ ⟨#[98]⟩ b w6 HD6.out HB6.out.size (fine1 (by decide) ham4 (by omega) (by decide)) ?_ (by decide) (by decide) (by decide) (by decide) (by simp [tot]; omega)).mono ?_
    · intro y hy
      obtain rfl := List.mem_singleton.1 hy
      show (⟨#[97]⟩ : ByteArray) ≠ ⟨#[98]⟩
      decide
    rintro e w7 ⟨rfl, hd, hb⟩
    have HD7 : Hid (Dk w7 W2.heap.size g 8388608 (-1) [(⟨#[97]⟩, am, a.size), (⟨#[98]⟩, b, 0)]) := Lib.hid hd
    have HB7 := Lib.hid (HB6.out.trans hb)
    clear hd hb
    go_wp2_with fail
    refine (append_n W2.heap.size g 8388608 (-1) _ ⟨#[99]⟩ c w7 HD7.out HB7.out.size (fine2 (by decide) (by decide) ham4 (by omega) (by omega) (by decide)) ?_ (by decide) (by decide) (by decide) (by decide) (by simp [tot]; omega)).mono ?_
    · intro y hy
      simp only [List.mem_cons, List.not_mem_nil, or_false] at hy
      rcases hy with rfl | rfl
      · show (⟨#[97]⟩ : ByteArray) ≠ ⟨#[99]⟩
        decide
      · show (⟨#[98]⟩ : ByteArray) ≠ ⟨#[99]⟩
        decide
    rintro e w8 ⟨rfl, hd, hb⟩
    have HD8 : Hid (Dk w8 W2.heap.size g 8388608 (-1) [(⟨#[97]⟩, am, a.size), (⟨#[98]⟩, b, 0), (⟨#[99]⟩, c, 0)]) := Lib.hid hd
    have HB8 := Lib.hid (HB7.out.trans hb)
    clear hd hb
    go_wp2_with fail
    refine (rename_d W2.heap.size g 8388608 (-1) [(⟨#[97]⟩, am, a.size)] (⟨#[98]⟩, b, 0) [(⟨#[99]⟩, c, 0)] [] (⟨#[97]⟩, am, a.size) [(⟨#[99]⟩, c, 0)] w8 HD8.out HB8.out.size (fine3 (by decide) (by decide) ham4 (by omega) (by omega) (by omega) (by decide)) rfl (show 0 < (⟨#[98]⟩ : ByteArray).size from by decide) (by decide) (by decide)).mono ?_
    rintro e w9 ⟨rfl, hd, hb⟩
    have HD9 : Hid (Dk w9 W2.heap.size g 8388608 (-1) [(⟨#[99]⟩, c, 0), (⟨#[98]⟩, am, a.size)]) := Lib.hid hd
    have HB9 := Lib.hid (HB8.out.trans hb)
    have HF9 : Hid (Fine 8388608 [(⟨#[99]⟩, c, 0), (⟨#[98]⟩, am, a.size)]) := Lib.hid (fine2 (by decide) (by decide) (by omega) ham4 (by omega) (by decide))
    clear hd hb
    go_wp2_with fail
    refine (read_d W2.heap.size g 8388608 (-1) _ (⟨#[98]⟩, am, a.size) w9 HD9.out HF9.out (by simp)).mono ?_
    rintro e w' ⟨rfl, rfl⟩
    go_wp2_with fail
    refine (read_d W2.heap.size g 8388608 (-1) _ (⟨#[99]⟩, c, 0) w9 HD9.out HF9.out (by simp)).mono ?_
    rintro e w' ⟨rfl, rfl⟩
    go_wp2_with fail
    refine (read_g W2.heap.size g 8388608 (-1) _ ⟨#[97]⟩ w9 HD9.out ?_).mono ?_
    · intro y hy
      simp only [List.mem_cons, List.not_mem_nil, or_false] at hy
      rcases hy with rfl | rfl
      · show (⟨#[99]⟩ : ByteArray) ≠ ⟨#[97]⟩
        decide
      · show (⟨#[98]⟩ : ByteArray) ≠ ⟨#[97]⟩
        decide
    rintro e w' ⟨rfl, rfl⟩
    go_wp2_with fail
    refine (size_d W2.heap.size g 8388608 (-1) _ (⟨#[98]⟩, am, a.size) w9 HD9.out HF9.out (by simp)).mono ?_
    rintro e w' ⟨rfl, m9, rfl⟩
    have hq1 : (am.toList == (a ++ more).toList) = true := by rw [HAM.out]; exact beq_self_eq_true _
    go_wp2_with fail
    refine (names_d W2.heap.size g 8388608 (-1) _ (w9.drewN m9) (HD9.out.drewN m9) HF9.out).mono ?_
    rintro e w10 ⟨v, rfl, hrow, hb⟩
    rw [names_cb] at hrow
    obtain ⟨r, cap, hv, hr1, hr2⟩ : ∃ r cap, v = .slice (some ⟨r, 0, none⟩) 2 cap ∧ 0 ≤ r ∧ r < w10.heap.size := by
      rcases hrow.2 with ⟨_, h0⟩ | ⟨r, cap, cur, hv, _, hg, _⟩
      · cases h0
      · exact ⟨r, cap, hv, by omega, (Array.getElem?_eq_some_iff.1 hg).1⟩
    subst hv
    have hc0 : w10.cell? ⟨r, 0, none⟩ = some (.string ⟨#[98]⟩) := by
      have := hrow.cells (g := r) rfl 0 _ rfl
      simpa only [Addr.add_lit, Nat.zero_add] using this
    have hc1 : w10.cell? ⟨r, 1, none⟩ = some (.string ⟨#[99]⟩) := by
      have := hrow.cells (g := r) rfl 1 _ rfl
      simpa only [Addr.add_lit, Nat.zero_add] using this
    have HC0 := Lib.hid hc0
    have HC1 := Lib.hid hc1
    have HR2 := Lib.hid hr2
    have HB10 : Hid (Below W2.heap.size W2 w10) := Lib.hid ((below_drewN HB9.out m9).trans (hb.mono (by have := HB9.out.size; simpa [World.drewN] using this)))
    clear hrow hb hc0 hc1 hr1 hr2
    go_wp2_with fail
    refine (same_yes [⟨#[98]⟩, ⟨#[99]⟩] r w10.heap.size cap 2 (w10.alloc (.cells #[.string ⟨#[98]⟩, .string ⟨#[99]⟩] 9)) (by decide) ?_ ?_).mono ?_
    · intro k hk
      rw [World.cell?_alloc_lt _ _ _ HR2.out]
      match k, hk with
      | 0, _ => exact HC0.out
      | 1, _ => exact HC1.out
    · intro k hk
      rw [Lib.cell_of_heap (heap_alloc_last _ _)]
      match k, hk with
      | 0, _ => rfl
      | 1, _ => rfl
    rintro e w11 ⟨rfl, m11, rfl⟩
    go_wp2_with fail
    go_ret
    exact ⟨rfl, below_drewN ((HB2.out.trans (HB10.out.mono HB2.out.size)).alloc (HB2.out.trans (HB10.out.mono HB2.out.size)).size _) _⟩
end Go.Proofs.Ytjjcicfilbfbjaa.FileMoves
