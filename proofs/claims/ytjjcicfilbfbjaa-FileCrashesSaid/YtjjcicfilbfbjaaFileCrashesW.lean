/- The walk of FileCrashes: it answers true. -/
import Derived.Test.YtjjcicfilbfbjaaSta04
namespace Go.Proofs.Ytjjcicfilbfbjaa.FileCrashes
open Go.RowKit Go.Maps Go.Sort Go.Proofs.Ytjjcicfilbfbjaa.Pin Go.Proofs.Ytjjcicfilbfbjaa.Gon Go.Proofs.Ytjjcicfilbfbjaa.Mps Go.Proofs.Ytjjcicfilbfbjaa.Dsk Go.Proofs.Ytjjcicfilbfbjaa.FileFails

abbrev ActT := Nat × ByteArray × Bool
/-- a slice that reads as acts -/
def ActsAt (w : World) (A : Option Addr) (ts : List ActT) : Prop := ∀ j (h : j < ts.length), ∃ r o, A = some ⟨r, o, none⟩ ∧ r < w.heap.size ∧ w.cell? ⟨r, o + j * 3, none⟩ = some (.int .u8 (ts[j].1 : Int)) ∧ w.cell? ⟨r, o + j * 3 + 1, none⟩ = some (.string ts[j].2.1) ∧ w.cell? ⟨r, o + j * 3 + 2, none⟩ = some (.bool ts[j].2.2)
theorem ActsAt.below {w w' : World} {A : Option Addr} {ts : List ActT} (h : ActsAt w A ts) (hb : Below w.heap.size w w') : ActsAt w' A ts := fun j hj => by
  obtain ⟨r, o, e, h1, h2, h3, h4⟩ := h j hj
  exact ⟨r, o, e, Nat.lt_of_lt_of_le h1 hb.size, (hb.cell (p := ⟨r, _, none⟩) h1).trans h2, (hb.cell (p := ⟨r, _, none⟩) h1).trans h3, (hb.cell (p := ⟨r, _, none⟩) h1).trans h4⟩
def asum (ts : List ActT) : Nat := (ts.map (·.2.1.size)).sum
theorem asum_append (a b : List ActT) : asum (a ++ b) = asum a + asum b := by simp [asum]
theorem asum_take (ts : List ActT) (k : Nat) (h : k < ts.length) : asum (ts.take (k + 1)) = asum (ts.take k) + ts[k].2.1.size := by
  rw [List.take_succ_eq_append_getElem h, asum_append]
  simp [asum]
theorem asum_le (ts : List ActT) (k : Nat) : asum (ts.take k) ≤ asum ts := by
  have h := asum_append (ts.take k) (ts.drop k)
  rw [List.take_append_drop] at h
  omega
theorem name_any (n : Nat) (hn : n < 256) (w : World) : Calls Try.prog 10 #[.int .u8 (n : Int)] w fun e w' => e = .returned (.string (nm (n % 4))) ∧ w = w' := by
  have h4 : n % 4 < 4 := Nat.mod_lt _ (by omega)
  rcases lt4 h4 with h | h | h | h
  · have hi : (n : Int) % 4 = 0 := by omega
    rw [h]
    clear h4 h
    go_enter Try.func10, Try.ntmps10
    go_wp2
    go_ret
    exact ⟨rfl, rfl⟩
  · have hi : (n : Int) % 4 = 1 := by omega
    rw [h]
    clear h4 h
    go_enter Try.func10, Try.ntmps10
    go_wp2
    go_ret
    exact ⟨rfl, rfl⟩
  · have hi : (n : Int) % 4 = 2 := by omega
    rw [h]
    clear h4 h
    go_enter Try.func10, Try.ntmps10
    go_wp2
    go_ret
    exact ⟨rfl, rfl⟩
  · have hi : (n : Int) % 4 = 3 := by omega
    rw [h]
    clear h4 h
    go_enter Try.func10, Try.ntmps10
    go_wp2
    go_ret
    exact ⟨rfl, rfl⟩
theorem name4 {k : Nat} (hk : k < 4) (w : World) : Calls Try.prog 10 #[.int .u8 (k : Int)] w fun e w' => e = .returned (.string (nm k)) ∧ w = w' := by
  have h := name_any k (by omega) w
  rw [Nat.mod_eq_of_lt hk] at h
  exact h
set_option maxHeartbeats 16000000 in
set_option maxRecDepth 100000 in
theorem walk (ts : List ActT) (A : Option Addr) (c : Nat) (keep : List Int) (Ak : Option Addr) (ck : Nat) (w : World) (hT : ActsAt w A ts) (h8 : ∀ t ∈ ts, t.1 < 256) (hl : ts.length ≤ 140737488351232) (hs : ∀ t ∈ ts, t.2.1.size ≤ 140737488351232)
    (hK : KeepAt w [] Ak keep) (hkl : keep.length ≤ 140737488351232) :
    Calls Try.prog 3 #[.slice A ts.length c, .slice Ak keep.length ck] w fun e w' => e = .returned (.bool true) ∧ Below w.heap.size w w' := by
  have HT := Lib.hid hT
  have HS := Lib.hid hs
  have HK := Lib.hid hK
  have H8 := Lib.hid h8
  obtain ⟨L, hL⟩ : ∃ L, L = ts.length := ⟨_, rfl⟩
  obtain ⟨Lk, hLk⟩ : ∃ Lk, Lk = keep.length := ⟨_, rfl⟩
  rw [← hL] at hl ⊢
  rw [← hLk] at hkl ⊢
  have HL := Lib.hid hL
  have HLk := Lib.hid hLk
  clear hT hs hL hK h8 hLk
  go_enter Try.func3, Try.ntmps3
  go_wp2_with fail
  go_loop [5, 6] (fun v i => ∃ (k n : Nat), k ≤ L ∧ i = .int .i64 k ∧ v = .int .i64 (n : Int) ∧ n ≤ 1048576 ∧ Hid (asum (ts.take k) = n)) (fun _ i => L - (intOf i).toNat)
  case atStart => exact ⟨0, 0, by omega, rfl, rfl, by omega, Lib.hid (by simp [asum])⟩
  case round =>
    obtain ⟨k, n, hk, rfl, rfl, hn, HN⟩ := hrel
    by_cases hlt : k < L
    · have hlt' : (k : Int) < (L : Int) := by omega
      have hks : k < ts.length := by rw [← HL.out]; exact hlt
      obtain ⟨r, o, rfl, hr, hc0, hc1, hc2⟩ := HT.out k hks
      obtain ⟨x, hx⟩ : ∃ x, x = ts[k].2.1 := ⟨_, rfl⟩
      have hxs : x.size ≤ 140737488351232 := by rw [hx]; exact HS.out _ (List.getElem_mem _)
      rw [← hx] at hc1
      have HX := Lib.hid hx
      clear hx hc0 hc2
      by_cases hbig : 1048576 < n + x.size
      · have hbig' : (1048576 : Int) < (n : Int) + (x.size : Int) := by omega
        go_wp2_with fail
        go_ret
        exact ⟨rfl, Below.refl _ _⟩
      · have hbig' : ¬ (1048576 : Int) < (n : Int) + (x.size : Int) := by omega
        go_wp2_with fail
        go_round
        case rel => exact ⟨k + 1, n + x.size, by omega, by go_num, by go_num, by omega, Lib.hid (by rw [asum_take ts k hks, HN.out, ← HX.out])⟩
        case measure => simp [intOf]; omega
    · have hlt' : ¬ ((k : Int) < (L : Int)) := by omega
      have hsum : asum ts ≤ 1048576 := by
        have h := HN.out
        have e : k = ts.length := by have := HL.out; omega
        rw [e, List.take_length] at h
        omega
      have HSM := Lib.hid hsum
      clear hsum hn
      go_wp2_with fail
      refine (alive_any w).mono ?_
      rintro e w1 ⟨rfl, hb1⟩
      have HB1 : Hid (Below w.heap.size w w1) := Lib.hid hb1
      clear hb1
      by_cases h500 : 500 < L
      · have h500' : (500 : Int) < (L : Int) := by omega
        go_wp2_with fail
        refine (alive_any w1).mono ?_
        rintro e w2 ⟨rfl, hb2⟩
        have HB2 : Hid (Below w.heap.size w w2) := Lib.hid (HB1.out.trans (hb2.mono HB1.out.size))
        clear hb2
        go_wp2_with fail
        go_ret
        exact ⟨rfl, HB2.out⟩
      · have h500' : ¬ (500 : Int) < (L : Int) := by omega
        go_wp2_with fail
        refine (new_d 2097152 w1 (by decide) (by decide)).mono ?_
        rintro e w2 ⟨g, rfl, hd, hb⟩
        obtain ⟨own, hdo, hown⟩ := hd.own
        have HD2 := Lib.hid hdo
        have HO2 := Lib.hid hown
        have HB2 : Hid (Below w1.heap.size w1 w2) := Lib.hid hb
        clear hd hb hdo hown
        have hmk1 : ∀ w : World, (Instr.makeSlice 31 (.int .i64 4) (.int .i64 4)).run Try.prog w = .ok (.slice (some ⟨w.heap.size, 0, none⟩) 4 4) (w.alloc (.cells #[.string ⟨#[]⟩, .string ⟨#[]⟩, .string ⟨#[]⟩, .string ⟨#[]⟩] 9)) := fun _ => by kernel_rfl
        have hmk2 : ∀ w : World, (Instr.makeSlice 23 (.int .i64 4) (.int .i64 4)).run Try.prog w = .ok (.slice (some ⟨w.heap.size, 0, none⟩) 4 4) (w.alloc (.cells #[.int .i64 0, .int .i64 0, .int .i64 0, .int .i64 0] 3)) := fun _ => by kernel_rfl
        have hmk3 : ∀ w : World, (Instr.makeSlice 32 (.int .i64 4) (.int .i64 4)).run Try.prog w = .ok (.slice (some ⟨w.heap.size, 0, none⟩) 4 4) (w.alloc (.cells #[.bool false, .bool false, .bool false, .bool false] 4)) := fun _ => by kernel_rfl
        go_wp2_with fail
        obtain ⟨ra, hra⟩ : ∃ ra, ra = w2.heap.size := ⟨_, rfl⟩
        obtain ⟨rb, hrb⟩ : ∃ rb, rb = w2.heap.size + 1 := ⟨_, rfl⟩
        obtain ⟨rc, hrc⟩ : ∃ rc, rc = w2.heap.size + 1 + 1 := ⟨_, rfl⟩
        obtain ⟨w3, hw3⟩ : ∃ w3, w3 = ((w2.alloc (Obj.cells #[Value.string { data := #[] }, Value.string { data := #[] }, Value.string { data := #[] }, Value.string { data := #[] }] 9)).alloc (Obj.cells #[Value.int IntKind.i64 0, Value.int IntKind.i64 0, Value.int IntKind.i64 0, Value.int IntKind.i64 0] 3)).alloc (Obj.cells #[Value.bool false, Value.bool false, Value.bool false, Value.bool false] 4) := ⟨_, rfl⟩
        have hS3 : Sta w3 w1.heap.size w1 g own ra rb rc (fun _ => ⟨#[]⟩) (fun _ => 0) (fun _ => false) [] (-1) := by
          have hz := HB2.out.size
          have hlt := HD2.out.lt
          have hb3 : Below w2.heap.size w2 w3 := by
            rw [hw3]
            exact (((Below.refl _ w2).alloc (Nat.le_refl _) _).alloc (by simp) _).alloc (by simp; omega) _
          refine ⟨HD2.out.below hb3, HO2.out, HB2.out.trans (hb3.mono hz), ?_, ?_, ?_, ⟨?_, ?_, ?_⟩, ⟨by omega, by omega, by omega⟩, ⟨by omega, by omega, by omega⟩⟩
          · rw [hw3, hra, Lib.alloc_old _ _ _ (by simp; omega), Lib.alloc_old _ _ _ (by simp)]
            exact heap_alloc_last w2 _
          · rw [hw3, hrb, Lib.alloc_old _ _ _ (by simp)]
            have := heap_alloc_last (w2.alloc (Obj.cells #[Value.string { data := #[] }, Value.string { data := #[] }, Value.string { data := #[] }, Value.string { data := #[] }] 9)) (Obj.cells #[Value.int IntKind.i64 0, Value.int IntKind.i64 0, Value.int IntKind.i64 0, Value.int IntKind.i64 0] 3)
            have e : (w2.alloc (Obj.cells #[Value.string { data := #[] }, Value.string { data := #[] }, Value.string { data := #[] }, Value.string { data := #[] }] 9)).heap.size = w2.heap.size + 1 := by simp
            rw [e] at this
            exact this
          · rw [hw3, hrc]
            have := heap_alloc_last ((w2.alloc (Obj.cells #[Value.string { data := #[] }, Value.string { data := #[] }, Value.string { data := #[] }, Value.string { data := #[] }] 9)).alloc (Obj.cells #[Value.int IntKind.i64 0, Value.int IntKind.i64 0, Value.int IntKind.i64 0, Value.int IntKind.i64 0] 3)) (Obj.cells #[Value.bool false, Value.bool false, Value.bool false, Value.bool false] 4)
            have e : ((w2.alloc (Obj.cells #[Value.string { data := #[] }, Value.string { data := #[] }, Value.string { data := #[] }, Value.string { data := #[] }] 9)).alloc (Obj.cells #[Value.int IntKind.i64 0, Value.int IntKind.i64 0, Value.int IntKind.i64 0, Value.int IntKind.i64 0] 3)).heap.size = w2.heap.size + 1 + 1 := by simp
            rw [e] at this
            exact this
          · intro hm; have := hlt ra hm; omega
          · intro hm; have := hlt rb hm; omega
          · intro hm; have := hlt rc hm; omega
        have HS3 := Lib.hid hS3
        have hrel0 : Rel [] (fun _ => ⟨#[]⟩) (fun _ => 0) (fun _ => false) := ⟨by simp, by simp⟩
        have HR3 := Lib.hid hrel0
        rw [← hw3, ← hrc, ← hrb, ← hra]
        clear hS3 hrel0 hw3 hrc hrb hra hmk1 hmk2 hmk3 HD2 HO2 HB2
        go_loopw [12] (fun i wr => ∃ (j : Nat) (own : List Nat) (W : Nat → ByteArray) (Y : Nat → Nat) (D : Nat → Bool) (l : List Abs), j ≤ L ∧ i = .int .i64 j ∧ Hid (Sta wr w1.heap.size w1 g own ra rb rc W Y D l (-1)) ∧ Hid (Rel l W Y D) ∧ Hid (∀ k, k < 4 → Y k ≤ (W k).size) ∧ Hid (∀ k, k < 4 → D k = false → W k = ⟨#[]⟩ ∧ Y k = 0) ∧ Hid (tot l ≤ asum (ts.take j) ∧ l.length ≤ j ∧ ∀ k, k < 4 → (W k).size ≤ asum (ts.take j))) (fun i _ => L - (intOf i).toNat)
        case atStart => exact ⟨0, own, _, _, _, [], by omega, rfl, HS3, HR3, Lib.hid (fun k _ => Nat.zero_le _), Lib.hid (fun k _ _ => ⟨rfl, rfl⟩), Lib.hid ⟨Nat.zero_le _, Nat.le_refl _, fun _ _ => Nat.zero_le _⟩⟩
        case round =>
          obtain ⟨j, own, W, Y, D, l, hj, rfl, HSt, HRl, HYl, HZl, HTl⟩ := hrel
          clear HS3 HR3
          by_cases hjl : j < L
          · have hjl' : (j : Int) < (L : Int) := by omega
            have hjs : j < ts.length := by rw [← HL.out]; exact hjl
            obtain ⟨r, o, rfl, hr, hc0, hc1, hc2⟩ := (HT.out.below (HB1.out.trans (HSt.out.below.mono HB1.out.size))) j hjs
            obtain ⟨f, hf⟩ : ∃ f, f = ts[j].1 := ⟨_, rfl⟩
            obtain ⟨x, hx⟩ : ∃ x, x = ts[j].2.1 := ⟨_, rfl⟩
            obtain ⟨sy, hsy⟩ : ∃ sy, sy = ts[j].2.2 := ⟨_, rfl⟩
            have hf8 : f < 256 := by rw [hf]; exact H8.out _ (List.getElem_mem _)
            have hat := asum_take ts j hjs
            have hxs : asum (ts.take j) + x.size ≤ 1048576 := by
              have := asum_le ts (j + 1)
              have := HSM.out
              rw [← hx] at hat
              omega
            rw [← hx] at hat hc1
            rw [← hf] at hc0
            rw [← hsy] at hc2
            have HAT := Lib.hid hat
            have HF := Lib.hid hf
            have HX := Lib.hid hx
            have HSY := Lib.hid hsy
            have hk4 : f % 4 < 4 := Nat.mod_lt _ (by omega)
            have HK4 := Lib.hid hk4
            obtain ⟨k, hk⟩ : ∃ k, k = f % 4 := ⟨_, rfl⟩
            have hkk : (f : Int) % 4 = (k : Int) := by omega
            have hk8 : k < 4 := by omega
            have hk8i : (k : Int) < 4 := by omega
            clear hf hx hsy hat hk4 hk
            go_wp2_with fail
            refine wp_region_q [0,0,1,0,0,0,0,1,2,0] (by kernel_rfl) (by kernel_rfl) ?_
            (refine q_pure_n rfl (fun K hK => ?_); go_simp; refine hK _ _ ?_; clear hK K)
            (refine q_pure_n rfl (fun K hK => ?_); go_simp; refine hK _ _ ?_; clear hK K)
            (refine q_read_n rfl (fun K hK => ?_); go_simp; apply Exists.intro; refine ⟨fun nw => ?_, hK _ _ ?_⟩; (exact read_same (name4 hk8 _)); clear hK K)
            (refine q_pure_n rfl (fun K hK => ?_); go_simp; refine hK _ _ ?_; clear hK K)
            (refine q_pure_n rfl (fun K hK => ?_); go_simp; refine hK _ _ ?_; clear hK K)
            (refine q_pure_n rfl (fun K hK => ?_); go_simp; refine hK _ _ ?_; clear hK K)
            (refine q_pure_n rfl (fun K hK => ?_); go_simp; refine hK _ _ ?_; clear hK K)
            (refine q_read_n rfl (fun K hK => ?_); go_simp; refine hK _ _ ?_; clear hK K)
            (refine q_write_n rfl (fun K hK => ?_); go_simp; intro nw; refine (put_any own g l W Y D k hk8 x (wr.drewN nw) (HSt.out.drewN nw).disk HRl.out HYl.out HZl.out (by have := HTl.out.1; omega) (by have := HTl.out.2.1; omega)).mono ?_; rintro e w4 ⟨rfl, own', l', hd4, ht4, hr4, hq4, hl4⟩; obtain ⟨w4, rfl⟩ : ∃ w5, w4 = World.drewN w5 0 := ⟨w4, rfl⟩; have HS4 : Hid (Sta w4 w1.heap.size w1 g own' ra rb rc W Y D l' (-1)) := Lib.hid ((HSt.out.drewN nw).call hd4 ht4); have HR4 := Lib.hid hr4; have HQ4 := Lib.hid hq4; have HL4 := Lib.hid hl4; clear hd4 ht4 hr4 hq4 hl4; refine ⟨_, rfl, _, ⟨_, rfl⟩, hK _ _ ?_⟩; clear hK K)
            (refine q_pure_n rfl (fun K hK => ?_); go_simp; refine hK _ _ ?_; clear hK K)
            refine q_nil ?_
            intro nq
            have HS5 := Lib.hid (HS4.out.drewN nq)
            obtain ⟨r', o', e', _, hc0', hc1', hc2'⟩ := (HT.out.below (HB1.out.trans (HS4.out.below.mono HB1.out.size))) j hjs
            cases e'
            rw [← HX.out] at hc1'
            rw [← HSY.out] at hc2'
            obtain ⟨c4a, f4a⟩ := HS4.out.cella hk8
            clear hc0 hc1 hc2 hc0' HS5
            obtain ⟨wk, hwk⟩ : ∃ wk, wk = W k := ⟨_, rfl⟩
            have hwks : wk.size + x.size ≤ 1048576 := by
              have := HTl.out.2.2 k hk8
              rw [← hwk] at this
              omega
            have hwks2 : ¬ 9223372036854775807 < wk.size + x.size := by omega
            rw [← hwk] at c4a
            have HWK := Lib.hid hwk
            clear hwk
            go_wp2_with fail
            refine wp_region_q [0,0,0,0,0,1,0,0,0,0,1,0,0,2] (by kernel_rfl) (by kernel_rfl) ?_
            (refine q_pure_n rfl (fun K hK => ?_); go_simp; refine hK _ _ ?_; clear hK K)
            (refine q_pure_n rfl (fun K hK => ?_); go_simp; refine hK _ _ ?_; clear hK K)
            (refine q_pure_n rfl (fun K hK => ?_); go_simp; refine hK _ _ ?_; clear hK K)
            (refine q_pure_n rfl (fun K hK => ?_); go_simp; refine hK _ _ ?_; clear hK K)
            (refine q_pure_n rfl (fun K hK => ?_); go_simp; refine hK _ _ ?_; clear hK K)
            (refine q_read_n rfl (fun K hK => ?_); go_simp; refine hK _ _ ?_; clear hK K)
            (refine q_pure_n rfl (fun K hK => ?_); go_simp; refine hK _ _ ?_; clear hK K)
            (refine q_pure_n rfl (fun K hK => ?_); go_simp; refine hK _ _ ?_; clear hK K)
            (refine q_pure_n rfl (fun K hK => ?_); go_simp; refine hK _ _ ?_; clear hK K)
            (refine q_pure_n rfl (fun K hK => ?_); go_simp; refine hK _ _ ?_; clear hK K)
            (refine q_read_n rfl (fun K hK => ?_); go_simp; refine hK _ _ ?_; clear hK K)
            (refine q_pure_n rfl (fun K hK => ?_); go_simp; refine hK _ _ ?_; clear hK K)
            (refine q_pure_n rfl (fun K hK => ?_); go_simp; refine hK _ _ ?_; clear hK K)
            (refine q_write_n rfl (fun K hK => ?_); go_simp; refine fun nw => ⟨_, ⟨_, rfl⟩, hK _ _ ?_⟩; clear hK K)
            refine q_nil ?_
            intro nq
            have HS6 : Hid (Sta (w4.setCell ⟨ra, k, none⟩ (.string (wk ++ x))) w1.heap.size w1 g own' ra rb rc (upd W k (wk ++ x)) Y D l' (-1)) := Lib.hid (HS4.out.seta hk8 _)
            obtain ⟨w5, hw5⟩ : ∃ w5, w5 = w4.setCell ⟨ra, k, none⟩ (.string (wk ++ x)) := ⟨_, rfl⟩
            rw [← hw5] at HS6 ⊢
            clear hw5 c4a f4a hc1' hc2'
            obtain ⟨c5c, f5c⟩ := HS6.out.cellc hk8
            have HS7 : Hid (Sta (w5.setCell ⟨rc, k, none⟩ (.bool true)) w1.heap.size w1 g own' ra rb rc (upd W k (wk ++ x)) Y (upd D k true) l' (-1)) := Lib.hid (HS6.out.setc hk8 true)
            have hc2'' : (w5.setCell ⟨rc, k, none⟩ (.bool true)).cell? ⟨r, o + j * 3 + 2, none⟩ = some (.bool sy) := by
              obtain ⟨r', o', e', _, _, _, h2⟩ := (HT.out.below (HB1.out.trans (HS7.out.below.mono HB1.out.size))) j hjs
              cases e'
              rw [HSY.out]
              exact h2
            obtain ⟨hY', hZ'⟩ := inv_put k x HYl.out HZl.out
            rw [← HWK.out] at hY' hZ'
            have hr4 := HR4.out
            rw [← HWK.out, upd_self] at hr4
            have hT' : tot l' ≤ asum (ts.take (j + 1)) ∧ l'.length ≤ j + 1 ∧ ∀ i, i < 4 → (upd W k (wk ++ x) i).size ≤ asum (ts.take (j + 1)) := by
              obtain ⟨h1, h2, h3⟩ := HTl.out
              have h4 := HQ4.out
              have h5 := HL4.out
              have h6 := HAT.out
              refine ⟨by omega, by omega, fun i hi => ?_⟩
              by_cases e : i = k
              · subst e
                rw [upd_same, size_append]
                have := h3 i hi
                rw [← HWK.out] at this
                omega
              · rw [upd_ne _ _ e]
                have := h3 i hi
                omega
            have HY' := Lib.hid hY'
            have HZ' := Lib.hid hZ'
            have HR' := Lib.hid hr4
            have HT' := Lib.hid hT'
            clear hY' hZ' hr4 hT' c5c f5c
            obtain ⟨c5c, f5c⟩ := HS6.out.cellc hk8
            cases sy with
            | false =>
              go_wp2_with fail
              go_roundw
              case rel => exact ⟨j + 1, own', _, _, _, l', by omega, by go_num, Lib.hid (HS7.out.drewN _), HR', HY', HZ', HT'⟩
              case measure => simp [intOf]; omega
            | true =>
              go_wp2_with fail
              refine (name4 hk8 _).mono ?_
              rintro e w' ⟨rfl, rfl⟩
              have HS8 := Lib.hid (HS7.out.drewN nq)
              go_wp2_with fail
              refine (sync_any own' g l' _ _ _ k hk8 _ HS8.out.disk HR'.out HY'.out (upd_same _ _ _) (by
                have := HT'.out.1
                have := asum_le ts (j + 1)
                have := HSM.out
                omega) (by have := HT'.out.2.1; omega)).mono ?_
              rintro e w8 ⟨rfl, own8, l8, hd8, ht8, hr8, hq8, hl8⟩
              have HS9 := Lib.hid (HS8.out.call hd8 ht8)
              obtain ⟨hY8, hZ8⟩ := inv_sync k (upd_same D k true) HY'.out HZ'.out
              rw [upd_same] at hY8 hZ8
              rw [upd_self, upd_same] at hr8
              have HY8 := Lib.hid hY8
              have HZ8 := Lib.hid hZ8
              have HR8 := Lib.hid hr8
              have HQ8 := Lib.hid hq8
              have HL8 := Lib.hid hl8
              obtain ⟨c9a, f9a⟩ := HS9.out.cella hk8
              rw [upd_same] at c9a
              obtain ⟨c9b, f9b⟩ := HS9.out.cellb hk8
              clear hd8 ht8 hr8 hq8 hl8 hY8 hZ8 c5c f5c hc2''
              go_wp2_with fail
              go_roundw
              case rel =>
                have hs10 := HS9.out.setb hk8 (wk ++ x).size
                rw [show (((wk ++ x).size : Nat) : Int) = (wk.size : Int) + (x.size : Int) by rw [size_append]; omega] at hs10
                exact ⟨j + 1, own8, _, _, _, l8, by omega, by go_num, Lib.hid hs10, HR8, HY8, HZ8, Lib.hid (by rw [HQ8.out, HL8.out]; exact HT'.out)⟩
              case measure => simp [intOf]; omega
          · obtain rfl : j = L := by omega
            have hjl' : ¬ ((j : Int) < (j : Int)) := by omega
            have HBw : Hid (Below w.heap.size w wr) := Lib.hid (HB1.out.trans (HSt.out.below.mono HB1.out.size))
            have HKA : Hid (KeepAt wr own Ak keep) := Lib.hid (keep_move HK.out HBw.out (fun r hr => Nat.le_trans HB1.out.size (HSt.out.owns r hr)))
            have htl : tot l ≤ 1048576 ∧ l.length ≤ 500 := by
              obtain ⟨h1, h2, _⟩ := HTl.out
              have := asum_le ts j
              have := HSM.out
              omega
            have hF := HRl.out.fine HYl.out (C := 2097152) (by omega) (by decide) (by omega)
            have hcr := crash_o own g 2097152 (-1) l Ak keep ck wr wr HSt.out.disk (Below.refl _ _) hF HKA.out (by have := HLk.out; omega)
            rw [HLk.out.symm] at hcr
            have HCR := Lib.hid hcr
            have HTL := Lib.hid htl
            have HRC := Lib.hid (HRl.out.crash keep)
            have HTC := Lib.hid (crash_tot keep l hF.durs)
            clear hcr htl hF
            go_wp2_with fail
            refine HCR.out.mono ?_
            rintro e wc ⟨rfl, own2, hd2, ht2⟩
            have HS0 := Lib.hid (HSt.out.call hd2 ht2)
            have HKA2 : Hid (KeepAt wc own2 Ak keep) := Lib.hid (HKA.out.turned ht2)
            clear hd2 ht2 HCR
            have hg0 : tot (crashAll keep l) ≤ 1048576 + 0 ∧ (crashAll keep l).length ≤ 500 := by
              have h1 := HTL.out
              have h2 := HTC.out
              have h3 := crash_len keep l
              omega
            have HG0 := Lib.hid hg0
            clear hg0
            go_wp2_with fail
            go_loopw [14, 15] (fun p q wq => ∃ (k : Nat) (own : List Nat) (Wd : Nat → ByteArray) (Yd : Nat → Nat) (l : List Abs), k ≤ 4 ∧ q = .int .u8 k ∧ p = .int .i64 (pos D k : Int) ∧ Hid (Sta wq w1.heap.size w1 g own ra rb rc W Y D l (-1)) ∧ Hid (Rel l Wd Yd D) ∧ Hid (∀ i, i < 4 → Yd i ≤ (Wd i).size) ∧ Hid (∀ i, k ≤ i → i < 4 → Wd i = cutB (W i) (kept keep W Y D i) ∧ Yd i = kept keep W Y D i) ∧ Hid (tot l ≤ 1048576 + k ∧ l.length ≤ 500)) (fun _ q _ => 4 - (intOf q).toNat)
            case atStart => exact ⟨0, own2, _, _, _, by omega, rfl, rfl, HS0, HRC, Lib.hid (kept_size keep HYl.out), Lib.hid (fun _ _ _ => ⟨rfl, rfl⟩), HG0⟩
            case round =>
              obtain ⟨k, own3, Wd, Yd, l3, hk, rfl, rfl, HS, HR, HY, HE, HG⟩ := hrel
              clear HS0 HRC HG0 HKA HTL HTC
              by_cases hk4 : k < 4
              · have hk4i : (k : Int) < 4 := by omega
                have hpl := pos_le D k
                obtain ⟨pk, hpk⟩ : ∃ pk, pk = pos D k := ⟨_, rfl⟩
                rw [← hpk] at hpl ⊢
                have HPK := Lib.hid hpk
                clear hpk
                obtain ⟨cc, fc⟩ := HS.out.cellc hk4
                have hps : pos D (k + 1) = pk + if D k then 1 else 0 := by rw [HPK.out]; rfl
                have HPS := Lib.hid hps
                clear hps
                go_wp2_with fail
                refine (name4 hk4 _).mono ?_
                rintro e w' ⟨rfl, rfl⟩
                go_wp2_with fail
                cases hDk : D k with
                | false =>
                  rw [hDk] at cc
                  have HDK := Lib.hid hDk
                  clear hDk
                  refine (read_g 0 g 2097152 (-1) l3 (nm k) wr HS.out.disk.dk (HR.out.fresh hk4 HDK.out)).mono ?_
                  rintro e w' ⟨rfl, rfl⟩
                  go_wp2_with fail
                  go_roundw
                  case rel =>
                    refine ⟨k + 1, own3, Wd, Yd, l3, by omega, by go_num, ?_, HS, HR, HY, Lib.hid (fun i h1 h2 => HE.out i (by omega) h2), Lib.hid ⟨by have := HG.out.1; omega, HG.out.2⟩⟩
                    rw [HPS.out, HDK.out]
                    rfl
                  case measure => simp [intOf]; omega
                | true =>
                  rw [hDk] at cc
                  have HDK := Lib.hid hDk
                  clear hDk
                  have hp1 : pos D (k + 1) = pk + 1 := by rw [HPS.out, HDK.out]; rfl
                  have HP1 := Lib.hid hp1
                  clear hp1
                  obtain ⟨wk, hwk⟩ : ∃ wk, wk = W k := ⟨_, rfl⟩
                  obtain ⟨yk, hyk⟩ : ∃ yk, yk = Y k := ⟨_, rfl⟩
                  obtain ⟨kp, hkp⟩ : ∃ kp, kp = kept keep W Y D k := ⟨_, rfl⟩
                  have hkl := kept_le keep HYl.out (D := D) k hk4
                  have hws : wk.size ≤ 1048576 := by
                    have h1 := HTl.out.2.2 k hk4
                    have h2 := asum_le ts j
                    have h3 := HSM.out
                    rw [hwk]
                    omega
                  rw [← hkp, ← hwk, ← hyk] at hkl
                  obtain ⟨hk1, hk2⟩ := hkl
                  have hk1i : (kp : Int) ≤ (wk.size : Int) := by omega
                  obtain ⟨ca, fa⟩ := HS.out.cella hk4
                  obtain ⟨cb, fb⟩ := HS.out.cellb hk4
                  rw [← hwk] at ca
                  rw [← hyk] at cb
                  obtain ⟨sk, hsk⟩ : ∃ sk, sk = wk.extract 0 kp := ⟨_, rfl⟩
                  have hsz : sk.size = kp := by
                    rw [hsk, ← cut_extract]
                    exact cutB_size _ _ hk1
                  have he := HE.out k (Nat.le_refl _) hk4
                  rw [← hwk, ← hkp, cut_extract, ← hsk, ← hsz] at he
                  have hmem : (nm k, sk, sk.size) ∈ l3 := by
                    have h := (HR.out.mem (nm k, Wd k, Yd k)).2 ⟨k, hk4, HDK.out, rfl⟩
                    rw [he.1, he.2] at h
                    exact h
                  have hF := HR.out.fine HY.out (C := 2097152) (by have := HG.out.1; omega) (by decide) (by have := HG.out.2; omega)
                  have HRD := Lib.hid (fun W (h : Dk W 0 g 2097152 (-1) l3) => read_d 0 g 2097152 (-1) l3 (nm k, sk, sk.size) W h hF hmem)
                  have HSD := Lib.hid (fun W (h : Dk W 0 g 2097152 (-1) l3) => size_d 0 g 2097152 (-1) l3 (nm k, sk, sk.size) W h hF hmem)
                  have HWK := Lib.hid hwk
                  have HYK := Lib.hid hyk
                  have HKP := Lib.hid hkp
                  have hsk' : wk.extract 0 kp = sk := hsk.symm
                  have HSZ := Lib.hid hsz
                  have hszi : (sk.size : Int) = (kp : Int) := by omega
                  have HSZI := Lib.hid hszi
                  clear hwk hyk hkp hsk hsz he hmem hF hszi
                  have hput := fun W (h : Do W own3 g 2097152 (-1) l3) => put_there own3 g l3 Wd Yd D k hk4 ⟨#[122]⟩ W h HR.out HY.out HDK.out (by have := HG.out.1; have e : (⟨#[122]⟩ : ByteArray).size = 1 := rfl; omega) (by have := HG.out.2; omega)
                  have HPUT := Lib.hid hput
                  clear hput
                  refine (HRD.out wr HS.out.disk.dk).mono ?_
                  rintro e w' ⟨rfl, rfl⟩
                  by_cases hpl2 : pk < Lk
                  · have hpi : (pk : Int) < (Lk : Int) := by omega
                    have hpn : pk < keep.length := by rw [← HLk.out]; exact hpl2
                    obtain ⟨rk, ok, rfl, _, _, hkc⟩ := (keep_move HK.out (HB1.out.trans (HS.out.below.mono HB1.out.size)) (fun r hr => Nat.le_trans HB1.out.size (HS.out.owns r hr))) pk hpn
                    obtain ⟨x, hx⟩ : ∃ x, x = keep[pk] := ⟨_, rfl⟩
                    rw [← hx] at hkc
                    have hkpe : (yk : Int) + min (max x 0) ((wk.size : Int) - (yk : Int)) = (kp : Int) := by
                      have h1 := HKP.out
                      unfold kept keptN at h1
                      have h2 := HPK.out
                      rw [dif_pos (by rw [← h2]; exact hpn)] at h1
                      have h3 : keep[pos D k]'(by rw [← h2]; exact hpn) = x := by
                        rw [hx]
                        congr 1
                        exact h2.symm
                      rw [h3, ← HWK.out, ← HYK.out] at h1
                      omega
                    by_cases hx0 : 0 < x
                    · have hw0 : IntKind.i64.wrap ((wk.size : Int) - (yk : Int)) = (wk.size : Int) - (yk : Int) := by rw [IntKind.wrap_i64]; omega
                      have hmx : max x 0 = x := by omega
                      rw [hmx] at hkpe
                      have HKE := Lib.hid hkpe
                      clear hkpe hmx hx
                      go_wp2_with fail
                      refine wp_region_q [0,0,0,1,0,0,0,1,0,0,0,0,1,0,0,0] (by kernel_rfl) (by kernel_rfl) ?_
                      (refine q_pure_n rfl (fun K hK => ?_); go_simp; refine hK _ _ ?_; clear hK K)
                      (refine q_pure_n rfl (fun K hK => ?_); go_simp; refine hK _ _ ?_; clear hK K)
                      (refine q_pure_n rfl (fun K hK => ?_); go_simp; refine hK _ _ ?_; clear hK K)
                      (refine q_read_n rfl (fun K hK => ?_); go_simp; refine hK _ _ ?_; clear hK K)
                      (refine q_pure_n rfl (fun K hK => ?_); go_simp; refine hK _ _ ?_; clear hK K)
                      (refine q_pure_n rfl (fun K hK => ?_); go_simp; refine hK _ _ ?_; clear hK K)
                      (refine q_pure_n rfl (fun K hK => ?_); go_simp; refine hK _ _ ?_; clear hK K)
                      (refine q_read_n rfl (fun K hK => ?_); go_simp; refine hK _ _ ?_; clear hK K)
                      (refine q_pure_n rfl (fun K hK => ?_); go_simp; refine hK _ _ ?_; clear hK K)
                      (refine q_pure_n rfl (fun K hK => ?_); go_simp; refine hK _ _ ?_; clear hK K)
                      (refine q_pure_n rfl (fun K hK => ?_); go_simp; refine hK _ _ ?_; clear hK K)
                      (refine q_pure_n rfl (fun K hK => ?_); go_simp; refine hK _ _ ?_; clear hK K)
                      (refine q_read_n rfl (fun K hK => ?_); go_simp; refine hK _ _ ?_; clear hK K)
                      (refine q_pure_n rfl (fun K hK => ?_); go_simp; refine hK _ _ ?_; clear hK K)
                      (refine q_pure_n rfl (fun K hK => ?_); go_simp; refine hK _ _ ?_; clear hK K)
                      (refine q_pure_n rfl (fun K hK => ?_); go_simp; refine hK _ _ ?_; clear hK K)
                      refine q_nil ?_
                      intro nq
                      go_wp2_with fail
                      refine (name4 hk4 _).mono ?_
                      rintro e w' ⟨rfl, rfl⟩
                      go_wp2_with fail
                      refine (HSD.out _ (HS.out.drewN _).disk.dk).mono ?_
                      rintro e w' ⟨rfl, m9, rfl⟩
                      have hszi := HSZI.out
                      have hwr : IntKind.i64.wrap ((yk : Int) + min x ((wk.size : Int) - (yk : Int))) = (kp : Int) := by rw [HKE.out, IntKind.wrap_i64]; omega
                      go_wp2_with fail
                      refine wp_region_q [0,0,0,0,0,0,0,0,0,0,0,1,0,0,0,1,0,0,0,0,0,0,0,0,0,0,0,0,0,0,0,0,0,0,0,0,1,2,0,0] (by kernel_rfl) (by kernel_rfl) ?_
                      (refine q_pure_n rfl (fun K hK => ?_); go_simp; refine hK _ _ ?_; clear hK K)
                      (refine q_pure_n rfl (fun K hK => ?_); go_simp; refine hK _ _ ?_; clear hK K)
                      (refine q_pure_n rfl (fun K hK => ?_); go_simp; refine hK _ _ ?_; clear hK K)
                      first | (refine q_pure_x rfl ?hy (fun K hK => ?_); (case hy => rfl); go_simp; refine hK _ _ ?_; clear hK K) | (refine q_pure_y rfl ?hy (fun K hK => ?_); (case hy => rfl); go_simp; refine hK _ _ ?_; clear hK K)
                      first | (refine q_pure_x rfl ?hy (fun K hK => ?_); (case hy => rfl); go_simp; refine hK _ _ ?_; clear hK K) | (refine q_pure_y rfl ?hy (fun K hK => ?_); (case hy => rfl); go_simp; refine hK _ _ ?_; clear hK K)
                      (refine q_pure_n rfl (fun K hK => ?_); go_simp; refine hK _ _ ?_; clear hK K)
                      (refine q_pure_n rfl (fun K hK => ?_); go_simp; refine hK _ _ ?_; clear hK K)
                      first | (refine q_pure_x rfl ?hy (fun K hK => ?_); (case hy => rfl); go_simp; refine hK _ _ ?_; clear hK K) | (refine q_pure_y rfl ?hy (fun K hK => ?_); (case hy => rfl); go_simp; refine hK _ _ ?_; clear hK K)
                      first | (refine q_pure_x rfl ?hy (fun K hK => ?_); (case hy => rfl); go_simp; refine hK _ _ ?_; clear hK K) | (refine q_pure_y rfl ?hy (fun K hK => ?_); (case hy => rfl); go_simp; refine hK _ _ ?_; clear hK K)
                      first | (refine q_pure_x rfl ?hy (fun K hK => ?_); (case hy => rfl); go_simp; refine hK _ _ ?_; clear hK K) | (refine q_pure_y rfl ?hy (fun K hK => ?_); (case hy => rfl); go_simp; refine hK _ _ ?_; clear hK K)
                      first | (refine q_pure_x rfl ?hy (fun K hK => ?_); (case hy => rfl); go_simp; refine hK _ _ ?_; clear hK K) | (refine q_pure_y rfl ?hy (fun K hK => ?_); (case hy => rfl); go_simp; refine hK _ _ ?_; clear hK K)
                      first | (refine q_read_x rfl ?hy (fun K hK => ?_); (case hy => rfl); go_simp; refine hK _ _ ?_; clear hK K) | (refine q_read_y rfl ?hy (fun K hK => ?_); (case hy => rfl); go_simp; refine hK _ _ ?_; clear hK K)
                      first | (refine q_pure_x rfl ?hy (fun K hK => ?_); (case hy => rfl); go_simp; refine hK _ _ ?_; clear hK K) | (refine q_pure_y rfl ?hy (fun K hK => ?_); (case hy => rfl); go_simp; refine hK _ _ ?_; clear hK K)
                      first | (refine q_pure_x rfl ?hy (fun K hK => ?_); (case hy => rfl); go_simp; refine hK _ _ ?_; clear hK K) | (refine q_pure_y rfl ?hy (fun K hK => ?_); (case hy => rfl); go_simp; refine hK _ _ ?_; clear hK K)
                      first | (refine q_pure_x rfl ?hy (fun K hK => ?_); (case hy => rfl); go_simp; refine hK _ _ ?_; clear hK K) | (refine q_pure_y rfl ?hy (fun K hK => ?_); (case hy => rfl); go_simp; refine hK _ _ ?_; clear hK K)
                      first | (refine q_read_x rfl ?hy (fun K hK => ?_); (case hy => rfl); go_simp; refine hK _ _ ?_; clear hK K) | (refine q_read_y rfl ?hy (fun K hK => ?_); (case hy => rfl); go_simp; refine hK _ _ ?_; clear hK K)
                      first | (refine q_pure_x rfl ?hy (fun K hK => ?_); (case hy => rfl); go_simp; refine hK _ _ ?_; clear hK K) | (refine q_pure_y rfl ?hy (fun K hK => ?_); (case hy => rfl); go_simp; refine hK _ _ ?_; clear hK K)
                      first | (refine q_pure_x rfl ?hy (fun K hK => ?_); (case hy => rfl); go_simp; refine hK _ _ ?_; clear hK K) | (refine q_pure_y rfl ?hy (fun K hK => ?_); (case hy => rfl); go_simp; refine hK _ _ ?_; clear hK K)
                      first | (refine q_pure_x rfl ?hy (fun K hK => ?_); (case hy => rfl); go_simp; refine hK _ _ ?_; clear hK K) | (refine q_pure_y rfl ?hy (fun K hK => ?_); (case hy => rfl); go_simp; refine hK _ _ ?_; clear hK K)
                      first | (refine q_pure_x rfl ?hy (fun K hK => ?_); (case hy => rfl); go_simp; refine hK _ _ ?_; clear hK K) | (refine q_pure_y rfl ?hy (fun K hK => ?_); (case hy => rfl); go_simp; refine hK _ _ ?_; clear hK K)
                      (refine q_pure_n rfl (fun K hK => ?_); go_simp; refine hK _ _ ?_; clear hK K)
                      (refine q_pure_n rfl (fun K hK => ?_); go_simp; refine hK _ _ ?_; clear hK K)
                      first | (refine q_pure_x rfl ?hy (fun K hK => ?_); (case hy => rfl); go_simp; refine hK _ _ ?_; clear hK K) | (refine q_pure_y rfl ?hy (fun K hK => ?_); (case hy => rfl); go_simp; refine hK _ _ ?_; clear hK K)
                      first | (refine q_pure_x rfl ?hy (fun K hK => ?_); (case hy => rfl); go_simp; refine hK _ _ ?_; clear hK K) | (refine q_pure_y rfl ?hy (fun K hK => ?_); (case hy => rfl); go_simp; refine hK _ _ ?_; clear hK K)
                      first | (refine q_pure_x rfl ?hy (fun K hK => ?_); (case hy => rfl); go_simp; refine hK _ _ ?_; clear hK K) | (refine q_pure_y rfl ?hy (fun K hK => ?_); (case hy => rfl); go_simp; refine hK _ _ ?_; clear hK K)
                      first | (refine q_pure_x rfl ?hy (fun K hK => ?_); (case hy => rfl); go_simp; refine hK _ _ ?_; clear hK K) | (refine q_pure_y rfl ?hy (fun K hK => ?_); (case hy => rfl); go_simp; refine hK _ _ ?_; clear hK K)
                      (refine q_pure_n rfl (fun K hK => ?_); go_simp; refine hK _ _ ?_; clear hK K)
                      (refine q_pure_n rfl (fun K hK => ?_); go_simp; refine hK _ _ ?_; clear hK K)
                      first | (refine q_pure_x rfl ?hy (fun K hK => ?_); (case hy => rfl); go_simp; refine hK _ _ ?_; clear hK K) | (refine q_pure_y rfl ?hy (fun K hK => ?_); (case hy => rfl); go_simp; refine hK _ _ ?_; clear hK K)
                      first | (refine q_pure_x rfl ?hy (fun K hK => ?_); (case hy => rfl); go_simp; refine hK _ _ ?_; clear hK K) | (refine q_pure_y rfl ?hy (fun K hK => ?_); (case hy => rfl); go_simp; refine hK _ _ ?_; clear hK K)
                      first | (refine q_pure_x rfl ?hy (fun K hK => ?_); (case hy => rfl); go_simp; refine hK _ _ ?_; clear hK K) | (refine q_pure_y rfl ?hy (fun K hK => ?_); (case hy => rfl); go_simp; refine hK _ _ ?_; clear hK K)
                      first | (refine q_pure_x rfl ?hy (fun K hK => ?_); (case hy => rfl); go_simp; refine hK _ _ ?_; clear hK K) | (refine q_pure_y rfl ?hy (fun K hK => ?_); (case hy => rfl); go_simp; refine hK _ _ ?_; clear hK K)
                      (refine q_pure_n rfl (fun K hK => ?_); go_simp; refine hK _ _ ?_; clear hK K)
                      (refine q_pure_n rfl (fun K hK => ?_); go_simp; refine hK _ _ ?_; clear hK K)
                      first | (refine q_pure_x rfl ?hy (fun K hK => ?_); (case hy => rfl); go_simp; refine hK _ _ ?_; clear hK K) | (refine q_pure_y rfl ?hy (fun K hK => ?_); (case hy => rfl); go_simp; refine hK _ _ ?_; clear hK K)
                      first | (refine q_pure_x rfl ?hy (fun K hK => ?_); (case hy => rfl); go_simp; refine hK _ _ ?_; clear hK K) | (refine q_pure_y rfl ?hy (fun K hK => ?_); (case hy => rfl); go_simp; refine hK _ _ ?_; clear hK K)
                      first | (refine q_read_x rfl ?hy (fun K hK => ?_); (case hy => rfl); go_simp; refine hK _ _ ?_; clear hK K) | (refine q_read_y rfl ?hy (fun K hK => ?_); (case hy => rfl); go_simp; apply Exists.intro; refine ⟨fun nw => ?_, hK _ _ ?_⟩; (exact read_same_add (name4 hk4 _)); clear hK K)
                      first | (refine q_write_x rfl ?hy (fun K hK => ?_); (case hy => rfl); go_simp; refine hK _ _ ?_; clear hK K) | (refine q_write_y rfl ?hy (fun K hK => ?_); (case hy => rfl); go_simp; intro nw; refine (HPUT.out _ (HS.out.disk.drewN _)).mono ?_; rintro e w4 ⟨rfl, own', l', hd4, ht4, hr4, hq4, hl4⟩; obtain ⟨w4, rfl⟩ : ∃ w5, w4 = World.drewN w5 0 := ⟨w4, rfl⟩; have HS4 : Hid (Sta w4 w1.heap.size w1 g own' ra rb rc W Y D l' (-1)) := Lib.hid ((HS.out.drewN _).call hd4 ht4); have HR4 := Lib.hid hr4; have HQ4 := Lib.hid hq4; have HL4 := Lib.hid hl4; clear hd4 ht4 hr4 hq4 hl4; refine ⟨_, rfl, _, ⟨_, rfl⟩, hK _ _ ?_⟩; clear hK K)
                      first | (refine q_pure_x rfl ?hy (fun K hK => ?_); (case hy => rfl); go_simp; refine hK _ _ ?_; clear hK K) | (refine q_pure_y rfl ?hy (fun K hK => ?_); (case hy => rfl); go_simp; refine hK _ _ ?_; clear hK K)
                      (refine q_pure_n rfl (fun K hK => ?_); go_simp; refine hK _ _ ?_; clear hK K)
                      refine q_nil ?_
                      intro nq
                      go_wp2_with fail
                      go_roundw
                      case rel =>
                        refine ⟨k + 1, own', _, Yd, l', by omega, by go_num, by rw [HP1.out]; go_num, Lib.hid (HS4.out.drewN _), HR4, Lib.hid (inv_there k _ HY.out), Lib.hid (fun i h1 h2 => by rw [upd_ne _ _ (by omega)]; exact HE.out i (by omega) h2), Lib.hid ?_⟩
                        have h1 := HQ4.out
                        have h2 := HL4.out
                        have h3 := HG.out
                        have e : (⟨#[122]⟩ : ByteArray).size = 1 := rfl
                        omega
                      case measure => simp [intOf]; omega
                    · have hyp : yk = kp := by omega
                      rw [hyp] at cb hk2
                      clear hkpe hx hyp
                      go_wp2_with fail
                      refine (name4 hk4 _).mono ?_
                      rintro e w' ⟨rfl, rfl⟩
                      go_wp2_with fail
                      refine (HSD.out _ HS.out.disk.dk).mono ?_
                      rintro e w' ⟨rfl, m9, rfl⟩
                      have hszi := HSZI.out
                      have hwr : IntKind.i64.wrap (kp : Int) = (kp : Int) := by rw [IntKind.wrap_i64]; omega
                      go_wp2_with fail
                      refine wp_region_q [0,0,0,0,0,0,0,0,0,0,0,1,0,0,0,1,0,0,0,0,0,0,0,0,0,0,0,0,0,0,0,0,0,0,0,0,1,2,0,0] (by kernel_rfl) (by kernel_rfl) ?_
                      (refine q_pure_n rfl (fun K hK => ?_); go_simp; refine hK _ _ ?_; clear hK K)
                      (refine q_pure_n rfl (fun K hK => ?_); go_simp; refine hK _ _ ?_; clear hK K)
                      (refine q_pure_n rfl (fun K hK => ?_); go_simp; refine hK _ _ ?_; clear hK K)
                      first | (refine q_pure_x rfl ?hy (fun K hK => ?_); (case hy => rfl); go_simp; refine hK _ _ ?_; clear hK K) | (refine q_pure_y rfl ?hy (fun K hK => ?_); (case hy => rfl); go_simp; refine hK _ _ ?_; clear hK K)
                      first | (refine q_pure_x rfl ?hy (fun K hK => ?_); (case hy => rfl); go_simp; refine hK _ _ ?_; clear hK K) | (refine q_pure_y rfl ?hy (fun K hK => ?_); (case hy => rfl); go_simp; refine hK _ _ ?_; clear hK K)
                      (refine q_pure_n rfl (fun K hK => ?_); go_simp; refine hK _ _ ?_; clear hK K)
                      (refine q_pure_n rfl (fun K hK => ?_); go_simp; refine hK _ _ ?_; clear hK K)
                      first | (refine q_pure_x rfl ?hy (fun K hK => ?_); (case hy => rfl); go_simp; refine hK _ _ ?_; clear hK K) | (refine q_pure_y rfl ?hy (fun K hK => ?_); (case hy => rfl); go_simp; refine hK _ _ ?_; clear hK K)
                      first | (refine q_pure_x rfl ?hy (fun K hK => ?_); (case hy => rfl); go_simp; refine hK _ _ ?_; clear hK K) | (refine q_pure_y rfl ?hy (fun K hK => ?_); (case hy => rfl); go_simp; refine hK _ _ ?_; clear hK K)
                      first | (refine q_pure_x rfl ?hy (fun K hK => ?_); (case hy => rfl); go_simp; refine hK _ _ ?_; clear hK K) | (refine q_pure_y rfl ?hy (fun K hK => ?_); (case hy => rfl); go_simp; refine hK _ _ ?_; clear hK K)
                      first | (refine q_pure_x rfl ?hy (fun K hK => ?_); (case hy => rfl); go_simp; refine hK _ _ ?_; clear hK K) | (refine q_pure_y rfl ?hy (fun K hK => ?_); (case hy => rfl); go_simp; refine hK _ _ ?_; clear hK K)
                      first | (refine q_read_x rfl ?hy (fun K hK => ?_); (case hy => rfl); go_simp; refine hK _ _ ?_; clear hK K) | (refine q_read_y rfl ?hy (fun K hK => ?_); (case hy => rfl); go_simp; refine hK _ _ ?_; clear hK K)
                      first | (refine q_pure_x rfl ?hy (fun K hK => ?_); (case hy => rfl); go_simp; refine hK _ _ ?_; clear hK K) | (refine q_pure_y rfl ?hy (fun K hK => ?_); (case hy => rfl); go_simp; refine hK _ _ ?_; clear hK K)
                      first | (refine q_pure_x rfl ?hy (fun K hK => ?_); (case hy => rfl); go_simp; refine hK _ _ ?_; clear hK K) | (refine q_pure_y rfl ?hy (fun K hK => ?_); (case hy => rfl); go_simp; refine hK _ _ ?_; clear hK K)
                      first | (refine q_pure_x rfl ?hy (fun K hK => ?_); (case hy => rfl); go_simp; refine hK _ _ ?_; clear hK K) | (refine q_pure_y rfl ?hy (fun K hK => ?_); (case hy => rfl); go_simp; refine hK _ _ ?_; clear hK K)
                      first | (refine q_read_x rfl ?hy (fun K hK => ?_); (case hy => rfl); go_simp; refine hK _ _ ?_; clear hK K) | (refine q_read_y rfl ?hy (fun K hK => ?_); (case hy => rfl); go_simp; refine hK _ _ ?_; clear hK K)
                      first | (refine q_pure_x rfl ?hy (fun K hK => ?_); (case hy => rfl); go_simp; refine hK _ _ ?_; clear hK K) | (refine q_pure_y rfl ?hy (fun K hK => ?_); (case hy => rfl); go_simp; refine hK _ _ ?_; clear hK K)
                      first | (refine q_pure_x rfl ?hy (fun K hK => ?_); (case hy => rfl); go_simp; refine hK _ _ ?_; clear hK K) | (refine q_pure_y rfl ?hy (fun K hK => ?_); (case hy => rfl); go_simp; refine hK _ _ ?_; clear hK K)
                      first | (refine q_pure_x rfl ?hy (fun K hK => ?_); (case hy => rfl); go_simp; refine hK _ _ ?_; clear hK K) | (refine q_pure_y rfl ?hy (fun K hK => ?_); (case hy => rfl); go_simp; refine hK _ _ ?_; clear hK K)
                      first | (refine q_pure_x rfl ?hy (fun K hK => ?_); (case hy => rfl); go_simp; refine hK _ _ ?_; clear hK K) | (refine q_pure_y rfl ?hy (fun K hK => ?_); (case hy => rfl); go_simp; refine hK _ _ ?_; clear hK K)
                      (refine q_pure_n rfl (fun K hK => ?_); go_simp; refine hK _ _ ?_; clear hK K)
                      (refine q_pure_n rfl (fun K hK => ?_); go_simp; refine hK _ _ ?_; clear hK K)
                      first | (refine q_pure_x rfl ?hy (fun K hK => ?_); (case hy => rfl); go_simp; refine hK _ _ ?_; clear hK K) | (refine q_pure_y rfl ?hy (fun K hK => ?_); (case hy => rfl); go_simp; refine hK _ _ ?_; clear hK K)
                      first | (refine q_pure_x rfl ?hy (fun K hK => ?_); (case hy => rfl); go_simp; refine hK _ _ ?_; clear hK K) | (refine q_pure_y rfl ?hy (fun K hK => ?_); (case hy => rfl); go_simp; refine hK _ _ ?_; clear hK K)
                      first | (refine q_pure_x rfl ?hy (fun K hK => ?_); (case hy => rfl); go_simp; refine hK _ _ ?_; clear hK K) | (refine q_pure_y rfl ?hy (fun K hK => ?_); (case hy => rfl); go_simp; refine hK _ _ ?_; clear hK K)
                      first | (refine q_pure_x rfl ?hy (fun K hK => ?_); (case hy => rfl); go_simp; refine hK _ _ ?_; clear hK K) | (refine q_pure_y rfl ?hy (fun K hK => ?_); (case hy => rfl); go_simp; refine hK _ _ ?_; clear hK K)
                      (refine q_pure_n rfl (fun K hK => ?_); go_simp; refine hK _ _ ?_; clear hK K)
                      (refine q_pure_n rfl (fun K hK => ?_); go_simp; refine hK _ _ ?_; clear hK K)
                      first | (refine q_pure_x rfl ?hy (fun K hK => ?_); (case hy => rfl); go_simp; refine hK _ _ ?_; clear hK K) | (refine q_pure_y rfl ?hy (fun K hK => ?_); (case hy => rfl); go_simp; refine hK _ _ ?_; clear hK K)
                      first | (refine q_pure_x rfl ?hy (fun K hK => ?_); (case hy => rfl); go_simp; refine hK _ _ ?_; clear hK K) | (refine q_pure_y rfl ?hy (fun K hK => ?_); (case hy => rfl); go_simp; refine hK _ _ ?_; clear hK K)
                      first | (refine q_pure_x rfl ?hy (fun K hK => ?_); (case hy => rfl); go_simp; refine hK _ _ ?_; clear hK K) | (refine q_pure_y rfl ?hy (fun K hK => ?_); (case hy => rfl); go_simp; refine hK _ _ ?_; clear hK K)
                      first | (refine q_pure_x rfl ?hy (fun K hK => ?_); (case hy => rfl); go_simp; refine hK _ _ ?_; clear hK K) | (refine q_pure_y rfl ?hy (fun K hK => ?_); (case hy => rfl); go_simp; refine hK _ _ ?_; clear hK K)
                      (refine q_pure_n rfl (fun K hK => ?_); go_simp; refine hK _ _ ?_; clear hK K)
                      (refine q_pure_n rfl (fun K hK => ?_); go_simp; refine hK _ _ ?_; clear hK K)
                      first | (refine q_pure_x rfl ?hy (fun K hK => ?_); (case hy => rfl); go_simp; refine hK _ _ ?_; clear hK K) | (refine q_pure_y rfl ?hy (fun K hK => ?_); (case hy => rfl); go_simp; refine hK _ _ ?_; clear hK K)
                      first | (refine q_pure_x rfl ?hy (fun K hK => ?_); (case hy => rfl); go_simp; refine hK _ _ ?_; clear hK K) | (refine q_pure_y rfl ?hy (fun K hK => ?_); (case hy => rfl); go_simp; refine hK _ _ ?_; clear hK K)
                      first | (refine q_read_x rfl ?hy (fun K hK => ?_); (case hy => rfl); go_simp; refine hK _ _ ?_; clear hK K) | (refine q_read_y rfl ?hy (fun K hK => ?_); (case hy => rfl); go_simp; apply Exists.intro; refine ⟨fun nw => ?_, hK _ _ ?_⟩; (exact read_same_add (name4 hk4 _)); clear hK K)
                      first | (refine q_write_x rfl ?hy (fun K hK => ?_); (case hy => rfl); go_simp; refine hK _ _ ?_; clear hK K) | (refine q_write_y rfl ?hy (fun K hK => ?_); (case hy => rfl); go_simp; intro nw; refine (HPUT.out _ (HS.out.disk.drewN _)).mono ?_; rintro e w4 ⟨rfl, own', l', hd4, ht4, hr4, hq4, hl4⟩; obtain ⟨w4, rfl⟩ : ∃ w5, w4 = World.drewN w5 0 := ⟨w4, rfl⟩; have HS4 : Hid (Sta w4 w1.heap.size w1 g own' ra rb rc W Y D l' (-1)) := Lib.hid ((HS.out.drewN _).call hd4 ht4); have HR4 := Lib.hid hr4; have HQ4 := Lib.hid hq4; have HL4 := Lib.hid hl4; clear hd4 ht4 hr4 hq4 hl4; refine ⟨_, rfl, _, ⟨_, rfl⟩, hK _ _ ?_⟩; clear hK K)
                      first | (refine q_pure_x rfl ?hy (fun K hK => ?_); (case hy => rfl); go_simp; refine hK _ _ ?_; clear hK K) | (refine q_pure_y rfl ?hy (fun K hK => ?_); (case hy => rfl); go_simp; refine hK _ _ ?_; clear hK K)
                      (refine q_pure_n rfl (fun K hK => ?_); go_simp; refine hK _ _ ?_; clear hK K)
                      refine q_nil ?_
                      intro nq
                      go_wp2_with fail
                      go_roundw
                      case rel =>
                        refine ⟨k + 1, own', _, Yd, l', by omega, by go_num, by rw [HP1.out]; go_num, Lib.hid (HS4.out.drewN _), HR4, Lib.hid (inv_there k _ HY.out), Lib.hid (fun i h1 h2 => by rw [upd_ne _ _ (by omega)]; exact HE.out i (by omega) h2), Lib.hid ?_⟩
                        have h1 := HQ4.out
                        have h2 := HL4.out
                        have h3 := HG.out
                        have e : (⟨#[122]⟩ : ByteArray).size = 1 := rfl
                        omega
                      case measure => simp [intOf]; omega
                  · have hpi : ¬ ((pk : Int) < (Lk : Int)) := by omega
                    have hyp : yk = kp := by
                      rw [HKP.out]
                      unfold kept keptN
                      rw [dif_neg (by rw [← HPK.out, ← HLk.out]; exact hpl2)]
                      exact HYK.out
                    rw [hyp] at cb hk2
                    clear hyp
                    go_wp2_with fail
                    refine (name4 hk4 _).mono ?_
                    rintro e w' ⟨rfl, rfl⟩
                    go_wp2_with fail
                    refine (HSD.out _ HS.out.disk.dk).mono ?_
                    rintro e w' ⟨rfl, m9, rfl⟩
                    have hszi := HSZI.out
                    have hwr : IntKind.i64.wrap (kp : Int) = (kp : Int) := by rw [IntKind.wrap_i64]; omega
                    go_wp2_with fail
                    refine wp_region_q [0,0,0,0,0,0,0,0,0,0,0,1,0,0,0,1,0,0,0,0,0,0,0,0,0,0,0,0,0,0,0,0,0,0,0,0,1,2,0,0] (by kernel_rfl) (by kernel_rfl) ?_
                    (refine q_pure_n rfl (fun K hK => ?_); go_simp; refine hK _ _ ?_; clear hK K)
                    (refine q_pure_n rfl (fun K hK => ?_); go_simp; refine hK _ _ ?_; clear hK K)
                    (refine q_pure_n rfl (fun K hK => ?_); go_simp; refine hK _ _ ?_; clear hK K)
                    first | (refine q_pure_x rfl ?hy (fun K hK => ?_); (case hy => rfl); go_simp; refine hK _ _ ?_; clear hK K) | (refine q_pure_y rfl ?hy (fun K hK => ?_); (case hy => rfl); go_simp; refine hK _ _ ?_; clear hK K)
                    first | (refine q_pure_x rfl ?hy (fun K hK => ?_); (case hy => rfl); go_simp; refine hK _ _ ?_; clear hK K) | (refine q_pure_y rfl ?hy (fun K hK => ?_); (case hy => rfl); go_simp; refine hK _ _ ?_; clear hK K)
                    (refine q_pure_n rfl (fun K hK => ?_); go_simp; refine hK _ _ ?_; clear hK K)
                    (refine q_pure_n rfl (fun K hK => ?_); go_simp; refine hK _ _ ?_; clear hK K)
                    first | (refine q_pure_x rfl ?hy (fun K hK => ?_); (case hy => rfl); go_simp; refine hK _ _ ?_; clear hK K) | (refine q_pure_y rfl ?hy (fun K hK => ?_); (case hy => rfl); go_simp; refine hK _ _ ?_; clear hK K)
                    first | (refine q_pure_x rfl ?hy (fun K hK => ?_); (case hy => rfl); go_simp; refine hK _ _ ?_; clear hK K) | (refine q_pure_y rfl ?hy (fun K hK => ?_); (case hy => rfl); go_simp; refine hK _ _ ?_; clear hK K)
                    first | (refine q_pure_x rfl ?hy (fun K hK => ?_); (case hy => rfl); go_simp; refine hK _ _ ?_; clear hK K) | (refine q_pure_y rfl ?hy (fun K hK => ?_); (case hy => rfl); go_simp; refine hK _ _ ?_; clear hK K)
                    first | (refine q_pure_x rfl ?hy (fun K hK => ?_); (case hy => rfl); go_simp; refine hK _ _ ?_; clear hK K) | (refine q_pure_y rfl ?hy (fun K hK => ?_); (case hy => rfl); go_simp; refine hK _ _ ?_; clear hK K)
                    first | (refine q_read_x rfl ?hy (fun K hK => ?_); (case hy => rfl); go_simp; refine hK _ _ ?_; clear hK K) | (refine q_read_y rfl ?hy (fun K hK => ?_); (case hy => rfl); go_simp; refine hK _ _ ?_; clear hK K)
                    first | (refine q_pure_x rfl ?hy (fun K hK => ?_); (case hy => rfl); go_simp; refine hK _ _ ?_; clear hK K) | (refine q_pure_y rfl ?hy (fun K hK => ?_); (case hy => rfl); go_simp; refine hK _ _ ?_; clear hK K)
                    first | (refine q_pure_x rfl ?hy (fun K hK => ?_); (case hy => rfl); go_simp; refine hK _ _ ?_; clear hK K) | (refine q_pure_y rfl ?hy (fun K hK => ?_); (case hy => rfl); go_simp; refine hK _ _ ?_; clear hK K)
                    first | (refine q_pure_x rfl ?hy (fun K hK => ?_); (case hy => rfl); go_simp; refine hK _ _ ?_; clear hK K) | (refine q_pure_y rfl ?hy (fun K hK => ?_); (case hy => rfl); go_simp; refine hK _ _ ?_; clear hK K)
                    first | (refine q_read_x rfl ?hy (fun K hK => ?_); (case hy => rfl); go_simp; refine hK _ _ ?_; clear hK K) | (refine q_read_y rfl ?hy (fun K hK => ?_); (case hy => rfl); go_simp; refine hK _ _ ?_; clear hK K)
                    first | (refine q_pure_x rfl ?hy (fun K hK => ?_); (case hy => rfl); go_simp; refine hK _ _ ?_; clear hK K) | (refine q_pure_y rfl ?hy (fun K hK => ?_); (case hy => rfl); go_simp; refine hK _ _ ?_; clear hK K)
                    first | (refine q_pure_x rfl ?hy (fun K hK => ?_); (case hy => rfl); go_simp; refine hK _ _ ?_; clear hK K) | (refine q_pure_y rfl ?hy (fun K hK => ?_); (case hy => rfl); go_simp; refine hK _ _ ?_; clear hK K)
                    first | (refine q_pure_x rfl ?hy (fun K hK => ?_); (case hy => rfl); go_simp; refine hK _ _ ?_; clear hK K) | (refine q_pure_y rfl ?hy (fun K hK => ?_); (case hy => rfl); go_simp; refine hK _ _ ?_; clear hK K)
                    first | (refine q_pure_x rfl ?hy (fun K hK => ?_); (case hy => rfl); go_simp; refine hK _ _ ?_; clear hK K) | (refine q_pure_y rfl ?hy (fun K hK => ?_); (case hy => rfl); go_simp; refine hK _ _ ?_; clear hK K)
                    (refine q_pure_n rfl (fun K hK => ?_); go_simp; refine hK _ _ ?_; clear hK K)
                    (refine q_pure_n rfl (fun K hK => ?_); go_simp; refine hK _ _ ?_; clear hK K)
                    first | (refine q_pure_x rfl ?hy (fun K hK => ?_); (case hy => rfl); go_simp; refine hK _ _ ?_; clear hK K) | (refine q_pure_y rfl ?hy (fun K hK => ?_); (case hy => rfl); go_simp; refine hK _ _ ?_; clear hK K)
                    first | (refine q_pure_x rfl ?hy (fun K hK => ?_); (case hy => rfl); go_simp; refine hK _ _ ?_; clear hK K) | (refine q_pure_y rfl ?hy (fun K hK => ?_); (case hy => rfl); go_simp; refine hK _ _ ?_; clear hK K)
                    first | (refine q_pure_x rfl ?hy (fun K hK => ?_); (case hy => rfl); go_simp; refine hK _ _ ?_; clear hK K) | (refine q_pure_y rfl ?hy (fun K hK => ?_); (case hy => rfl); go_simp; refine hK _ _ ?_; clear hK K)
                    first | (refine q_pure_x rfl ?hy (fun K hK => ?_); (case hy => rfl); go_simp; refine hK _ _ ?_; clear hK K) | (refine q_pure_y rfl ?hy (fun K hK => ?_); (case hy => rfl); go_simp; refine hK _ _ ?_; clear hK K)
                    (refine q_pure_n rfl (fun K hK => ?_); go_simp; refine hK _ _ ?_; clear hK K)
                    (refine q_pure_n rfl (fun K hK => ?_); go_simp; refine hK _ _ ?_; clear hK K)
                    first | (refine q_pure_x rfl ?hy (fun K hK => ?_); (case hy => rfl); go_simp; refine hK _ _ ?_; clear hK K) | (refine q_pure_y rfl ?hy (fun K hK => ?_); (case hy => rfl); go_simp; refine hK _ _ ?_; clear hK K)
                    first | (refine q_pure_x rfl ?hy (fun K hK => ?_); (case hy => rfl); go_simp; refine hK _ _ ?_; clear hK K) | (refine q_pure_y rfl ?hy (fun K hK => ?_); (case hy => rfl); go_simp; refine hK _ _ ?_; clear hK K)
                    first | (refine q_pure_x rfl ?hy (fun K hK => ?_); (case hy => rfl); go_simp; refine hK _ _ ?_; clear hK K) | (refine q_pure_y rfl ?hy (fun K hK => ?_); (case hy => rfl); go_simp; refine hK _ _ ?_; clear hK K)
                    first | (refine q_pure_x rfl ?hy (fun K hK => ?_); (case hy => rfl); go_simp; refine hK _ _ ?_; clear hK K) | (refine q_pure_y rfl ?hy (fun K hK => ?_); (case hy => rfl); go_simp; refine hK _ _ ?_; clear hK K)
                    (refine q_pure_n rfl (fun K hK => ?_); go_simp; refine hK _ _ ?_; clear hK K)
                    (refine q_pure_n rfl (fun K hK => ?_); go_simp; refine hK _ _ ?_; clear hK K)
                    first | (refine q_pure_x rfl ?hy (fun K hK => ?_); (case hy => rfl); go_simp; refine hK _ _ ?_; clear hK K) | (refine q_pure_y rfl ?hy (fun K hK => ?_); (case hy => rfl); go_simp; refine hK _ _ ?_; clear hK K)
                    first | (refine q_pure_x rfl ?hy (fun K hK => ?_); (case hy => rfl); go_simp; refine hK _ _ ?_; clear hK K) | (refine q_pure_y rfl ?hy (fun K hK => ?_); (case hy => rfl); go_simp; refine hK _ _ ?_; clear hK K)
                    first | (refine q_read_x rfl ?hy (fun K hK => ?_); (case hy => rfl); go_simp; refine hK _ _ ?_; clear hK K) | (refine q_read_y rfl ?hy (fun K hK => ?_); (case hy => rfl); go_simp; apply Exists.intro; refine ⟨fun nw => ?_, hK _ _ ?_⟩; (exact read_same_add (name4 hk4 _)); clear hK K)
                    first | (refine q_write_x rfl ?hy (fun K hK => ?_); (case hy => rfl); go_simp; refine hK _ _ ?_; clear hK K) | (refine q_write_y rfl ?hy (fun K hK => ?_); (case hy => rfl); go_simp; intro nw; refine (HPUT.out _ (HS.out.disk.drewN _)).mono ?_; rintro e w4 ⟨rfl, own', l', hd4, ht4, hr4, hq4, hl4⟩; obtain ⟨w4, rfl⟩ : ∃ w5, w4 = World.drewN w5 0 := ⟨w4, rfl⟩; have HS4 : Hid (Sta w4 w1.heap.size w1 g own' ra rb rc W Y D l' (-1)) := Lib.hid ((HS.out.drewN _).call hd4 ht4); have HR4 := Lib.hid hr4; have HQ4 := Lib.hid hq4; have HL4 := Lib.hid hl4; clear hd4 ht4 hr4 hq4 hl4; refine ⟨_, rfl, _, ⟨_, rfl⟩, hK _ _ ?_⟩; clear hK K)
                    first | (refine q_pure_x rfl ?hy (fun K hK => ?_); (case hy => rfl); go_simp; refine hK _ _ ?_; clear hK K) | (refine q_pure_y rfl ?hy (fun K hK => ?_); (case hy => rfl); go_simp; refine hK _ _ ?_; clear hK K)
                    (refine q_pure_n rfl (fun K hK => ?_); go_simp; refine hK _ _ ?_; clear hK K)
                    refine q_nil ?_
                    intro nq
                    go_wp2_with fail
                    go_roundw
                    case rel =>
                      refine ⟨k + 1, own', _, Yd, l', by omega, by go_num, by rw [HP1.out]; go_num, Lib.hid (HS4.out.drewN _), HR4, Lib.hid (inv_there k _ HY.out), Lib.hid (fun i h1 h2 => by rw [upd_ne _ _ (by omega)]; exact HE.out i (by omega) h2), Lib.hid ?_⟩
                      have h1 := HQ4.out
                      have h2 := HL4.out
                      have h3 := HG.out
                      have e : (⟨#[122]⟩ : ByteArray).size = 1 := rfl
                      omega
                    case measure => simp [intOf]; omega
              · obtain rfl : k = 4 := by omega
                go_wp2_with fail
                go_ret
                exact ⟨rfl, HB1.out.trans (HS.out.below.mono HB1.out.size)⟩
end Go.Proofs.Ytjjcicfilbfbjaa.FileCrashes
