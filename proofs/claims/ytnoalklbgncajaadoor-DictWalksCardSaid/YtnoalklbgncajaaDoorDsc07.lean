/- Chapter 07: Scan walked. -/
import Derived.Test.YtnoalklbgncajaaDoorSc07
namespace Go.Proofs.YtnoalklbgncajaaDoor.Dct
open Go Go.MapKept Go.RowKit Go.Proofs.YtnoalklbgncajaaDoor.Pin Go.Proofs.YtnoalklbgncajaaDoor.Mps Go.Proofs.YtnoalklbgncajaaDoor.Bok Go.Proofs.YtnoalklbgncajaaDoor.Uw Go.Proofs.YtnoalklbgncajaaDoor.Sip
attribute [local go_sem high] eql_tab
attribute [local go_sem high] run_store_U cells_U eqGuard_U asIntOf_U
attribute [local go_sem high] eql_map neq_map
theorem results_tmp_cell {P : Program} {fn : Func} {p u : Tmp} {ty : TypeId} (h : fn.results = #[.tmp u, .cell p ty]) (tmps : Array Value) (w : World) (g : Nat) (cv : Value) (hp : tmps.getD p undef = .pointer (some ⟨g, 0, none⟩)) (ha : (isAgg ty).run P w = .ok false w) (hc : w.cell? ⟨g, 0, none⟩ = some cv) :
    (results fn tmps).run P w = .ok (.tuple #[tmps.getD u undef, cv]) w := by
  have hp' : tmps[p]?.getD undef = .pointer (some ⟨g, 0, none⟩) := by simpa using hp
  simp only [results, h]
  simp [Sem.run_bind, Result.andThen, hp', asAddr, loadVar, ha, hc]
theorem Bx.setcur {w : World} {B cb kb : Nat} {no : Nat → Prop} {v : BitVec 64} {L : List ByteArray} (h : Bx w B no cb kb v L) (v' : BitVec 64) : Bx (w.setCell ⟨cb, 0, none⟩ (U v')) B no cb kb v' L ∧ Below B w (w.setCell ⟨cb, 0, none⟩ (U v')) := by
  obtain ⟨kv, e1, e2, e3⟩ := h.box
  have hso : ∀ k, k ≠ cb → (w.setCell ⟨cb, 0, none⟩ (U v')).heap[k]? = w.heap[k]? := fun k hk => set_block_other _ ⟨cb, 0, none⟩ _ k hk
  refine ⟨⟨?_, ⟨kv, (hso kb (fun e => h.ne e.symm)).trans e1, (Frm.set (own := fun b => b = cb) (Frm.refl w) ⟨cb, 0, none⟩ (U v') (fun _ => rfl)).row e2 (fun r hr e => (e3 r hr).1 e), e3⟩, h.ne, h.ncb, h.nkb⟩, ⟨rfl, rfl, rfl, by simp, fun k hk => hso k (by have := h.ncb; omega)⟩⟩
  rw [heap_setCell_same w cb 0 _ _ _ h.cur]
  rfl
theorem Bx.sorted {w w' : World} {B cb kb : Nat} {no : Nat → Prop} {v : BitVec 64} {L : List ByteArray} {kv : Value} (h : Bx w B no cb kb v L) (hk : w.heap[kb]? = some (.cells #[kv] 33 (0, 0))) (hown : w'.ownsRow B 9 1 kv L.length ((sortT L).map Value.string)) (hg : w.grownBy w' kv.ownBlock) : Bx w' B no cb kb v (sortT L) ∧ Below B w w' ∧ w'.heap[kb]? = some (.cells #[kv] 33 (0, 0)) := by
  obtain ⟨kv', e1, e2, e3⟩ := h.box
  rw [hk] at e1
  have e0 : kv = kv' := by
    injection e1 with e1
    injection e1 with e1 _
    injection e1 with e1
    injection e1 with e1 _
  subst e0
  obtain ⟨l1, l2⟩ := h.lt
  have hl : (sortT L).length = L.length := (sortT_perm L).length_eq
  refine ⟨⟨(hg.block cb l1 (fun e => (e3 cb e.symm).1 rfl)).trans h.cur, ⟨kv, (hg.block kb l2 (fun e => (e3 kb e.symm).2.1 rfl)).trans hk, by rw [hl]; exact hown, e3⟩, h.ne, h.ncb, h.nkb⟩, ⟨hg.os, hg.tape, hg.output, hg.size, fun k hk2 => hg.block k (by have := h.ncb; omega) (fun e => by have := (e2.lt k e.symm).1; omega)⟩, (hg.block kb l2 (fun e => (e3 kb e.symm).2.1 rfl)).trans hk⟩
theorem small_len {s : St} (hI : Inv s) (hn : s.n ≤ 274877906944) (l : Ents) (l2 : Ents) (h : s.ents.Perm (l ++ l2)) : l.length ≤ 274877906944 := by
  have h1 := h.length_eq
  have h2 := hI.cnt
  rw [List.length_append] at h1
  omega
theorem scan_step {a b C t : Nat} (hab : a ≤ b) (hb : b ≤ 64) (h0 : C / 2 ^ (64 - b) ≤ t) (hlt : t * 2 ^ (64 - b) < Eof a C) :
    (t + 1) * 2 ^ (64 - b) ≤ Eof a C ∧ ((t + 1) * 2 ^ (64 - b) % 18446744073709551616 % 2 ^ (64 - a) = 0 ↔ (t + 1) * 2 ^ (64 - b) = Eof a C) := by
  have hk : 0 < 2 ^ (64 - b) := Nat.two_pow_pos _
  obtain ⟨q, hq⟩ : ∃ q, 2 ^ (64 - a) = q * 2 ^ (64 - b) := ⟨2 ^ (b - a), by rw [← Nat.pow_add, show b - a + (64 - b) = 64 - a by omega]⟩
  have hq0 : 0 < q := by
    rcases Nat.eq_zero_or_pos q with e | e
    · have := Nat.two_pow_pos (64 - a); rw [hq, e, Nat.zero_mul] at this; omega
    · exact e
  obtain ⟨f, hf⟩ : ∃ f, f = C / 2 ^ (64 - a) := ⟨_, rfl⟩
  have hE : Eof a C = (f + 1) * q * 2 ^ (64 - b) := by unfold Eof; rw [← hf, hq, Nat.mul_assoc]
  have hfl : f * q ≤ t := by
    refine Nat.le_trans ?_ h0
    rw [Nat.le_div_iff_mul_le hk, Nat.mul_assoc, ← hq, hf]
    exact Nat.div_mul_le_self _ _
  have h1 : t + 1 ≤ (f + 1) * q := by
    rw [hE] at hlt
    exact Nat.lt_of_mul_lt_mul_right hlt
  have hd : (2 : Nat) ^ (64 - a) ∣ 18446744073709551616 := by
    rw [show (18446744073709551616 : Nat) = 2 ^ 64 from rfl]
    exact Nat.pow_dvd_pow 2 (by omega)
  refine ⟨by rw [hE]; exact Nat.mul_le_mul_right _ h1, ?_⟩
  rw [Nat.mod_mod_of_dvd _ hd, hE, hq]
  rw [Nat.mul_mod_mul_right]
  constructor
  · intro h
    have h2 : (t + 1) % q = 0 := by
      rcases Nat.mul_eq_zero.1 h with h | h
      · exact h
      · omega
    obtain ⟨r, hr⟩ := Nat.dvd_of_mod_eq_zero h2
    rw [hr]
    congr 1
    rw [Nat.mul_comm (f + 1) q]
    congr 1
    have h3 : f < r := by
      have : f * q < r * q := by rw [Nat.mul_comm r q, ← hr]; omega
      exact Nat.lt_of_mul_lt_mul_right this
    have h4 : r ≤ f + 1 := by
      have : r * q ≤ (f + 1) * q := by rw [Nat.mul_comm r q, ← hr]; exact h1
      exact Nat.le_of_mul_le_mul_right this hq0
    omega
  · intro h
    have h2 : t + 1 = (f + 1) * q := Nat.eq_of_mul_eq_mul_right hk h
    rw [h2, Nat.mul_mod_left, Nat.zero_mul]
theorem pw_le {n : Nat} (h : Pw n) (hn : n ≤ 1099511627776) : ∃ a, 2 ≤ a ∧ a ≤ 40 ∧ n = 2 ^ a := by
  obtain ⟨a, h1, h2⟩ := h
  refine ⟨a, h1, ?_, h2⟩
  rcases Nat.lt_or_ge 40 a with h3 | h3
  · have : 2 ^ 41 ≤ 2 ^ a := Nat.pow_le_pow_right (by decide) h3
    omega
  · exact h3
set_option maxHeartbeats 4000000 in
set_option maxRecDepth 100000 in
theorem scan_any {w : World} {d : Nat} {s : St} (h : DAt w d s) (hI : Inv s) (v : BitVec 64) (hn : s.n ≤ 274877906944) :
    Calls Tryd.prog 13 #[.pointer (some ⟨d, 0, none⟩), U v] w fun e w' => ∃ v' kv L, e = .returned (.tuple #[U v', kv]) ∧ ScanR s v v' L ∧ w'.ownsRow w.heap.size 9 1 kv L.length (L.map Value.string) ∧ Below w.heap.size w w' := by
  have HD := Lib.hid h
  have HI := Lib.hid hI
  have HNN := Lib.hid hn
  clear h hI hn
  rcases s.t1_cases with ht | ⟨x, ht⟩
  · have H1 := Lib.hid ht
    clear ht
    go_enter Tryd.func13, Tryd.ntmps13
    go_wp2_with fail
    obtain ⟨W, hW⟩ : ∃ W, W = ((w.alloc (.cells #[U v] 22)).alloc (.cells #[.slice none 0 0] 33)) := ⟨_, rfl⟩
    rw [← hW]
    have HBW : Hid (Below w.heap.size w W) := Lib.hid (by rw [hW]; exact ((Below.refl _ _).alloc (Nat.le_refl _) _).alloc (by simp) _)
    have HX0 : Hid (Bx W w.heap.size (fun _ => False) w.heap.size (w.heap.size + 1) v []) := Lib.hid (by
      rw [hW]
      refine ⟨?_, ⟨.slice none 0 0, ?_, World.ownsRow_nil _ _ _ _, fun r e => by cases e⟩, by omega, Nat.le_refl _, by omega⟩
      · rw [heap_alloc_old _ _ (by simp)]
        exact heap_alloc_new w _
      · have := heap_alloc_new (w.alloc (.cells #[U v] 22)) (.cells #[.slice none 0 0] 33)
        simpa using this)
    have HDW := Lib.hid (HD.out.below HBW.out)
    have HG := Lib.hid (gone_no HDW.out)
    clear hW
    refine HG.out.mono ?_
    rintro e w' ⟨rfl, rfl⟩
    clear HG
    have c1 : W.cell? ⟨d, 1, none⟩ = some (.slice (some ⟨s.a0, 0, none⟩) s.p0.length s.p0.length) := by rw [Lib.cell_of_heap HDW.out.top]; rfl
    have c2 : W.cell? ⟨d, 2, none⟩ = some (.slice none 0 0) := by rw [Lib.cell_of_heap HDW.out.top]; simp [St.cells, H1.out, t1V]
    obtain ⟨B, hB⟩ : ∃ B, B = w.heap.size := ⟨_, rfl⟩
    rw [← hB] at HX0 HBW ⊢
    obtain ⟨kb, hkb⟩ : ∃ kb, kb = B + 1 := ⟨_, rfl⟩
    rw [← hkb] at HX0 ⊢
    have HB := Lib.hid hB
    clear hkb hB
    go_wp2_with fail
    refine wp_region_q [0,0,0,0,1,0,0,0,0,1,0,0] (by kernel_rfl) (by kernel_rfl) ?_
    (refine q_pure_n rfl (fun K hK => ?_); go_simp; refine hK _ _ ?_; clear hK K)
    (refine q_pure_n rfl (fun K hK => ?_); go_simp; refine hK _ _ ?_; clear hK K)
    (refine q_pure_n rfl (fun K hK => ?_); go_simp; refine hK _ _ ?_; clear hK K)
    (refine q_pure_n rfl (fun K hK => ?_); go_simp; refine hK _ _ ?_; clear hK K)
    (refine q_read_n rfl (fun K hK => ?_); go_simp; refine hK _ _ ?_; clear hK K)
    (refine q_pure_n rfl (fun K hK => ?_); go_simp; refine hK _ _ ?_; clear hK K)
    (refine q_pure_n rfl (fun K hK => ?_); go_simp; refine hK _ _ ?_; clear hK K)
    (refine q_pure_n rfl (fun K hK => ?_); go_simp; refine hK _ _ ?_; clear hK K)
    (refine q_pure_n rfl (fun K hK => ?_); go_simp; refine hK _ _ ?_; clear hK K)
    (refine q_read_n rfl (fun K hK => ?_); go_simp; refine hK _ _ ?_; clear hK K)
    (refine q_pure_n rfl (fun K hK => ?_); go_simp; refine hK _ _ ?_; clear hK K)
    (refine q_pure_n rfl (fun K hK => ?_); go_simp; refine hK _ _ ?_; clear hK K)
    refine q_nil ?_
    intro nq
    have HB2 : Hid (Below B W (W.drewN nq)) := Lib.hid (below_drewN (Below.refl _ _) nq)
    have HD2 : Hid (DAt (W.drewN nq) d s) := Lib.hid (HDW.out.below (below_drewN (Below.refl _ _) nq))
    have HX2 : Hid (Bx (W.drewN nq) B (fun _ => False) B kb v []) := Lib.hid (HX0.out.same ((Frm.refl W).drewN nq) (fun k => k) (fun k => k))
    obtain ⟨W2, hW2⟩ : ∃ W2, W2 = W.drewN nq := ⟨_, rfl⟩
    rw [← hW2] at HB2 HD2 HX2 ⊢
    clear hW2 c1 c2
    have HMV := Lib.hid (moves_any HD2.out)
    rw [H1.out] at HMV
    have HBS : Hid (Below B w W2) := Lib.hid (HBW.out.trans HB2.out)
    clear HBW HB2 HX0 HDW
    go_wp2_with fail
    refine HMV.out.mono ?_
    rintro e w' ⟨rfl, rfl⟩
    clear HMV
    go_wp2_with fail
    obtain ⟨z, hz⟩ : ∃ z, s.p0[plcV v s.p0.length]? = some z := ⟨_, List.getElem?_eq_getElem (plcV_lt v HD2.out.len0.1 HD2.out.len0.2)⟩
    obtain ⟨a, ha1, ha2, ha3⟩ := pw_le HI.out.pow0 HD2.out.len0.2
    have hfil := place_filter HI.out.t0 ha3 (by omega) hz
    rw [place_btw] at hfil
    have hEP : s.ents.Perm (flat s.p0 ++ []) := by unfold St.ents; rw [H1.out]; exact List.Perm.refl _
    have HLE : Hid ((plE z).length ≤ 274877906944) := Lib.hid (by
      have h1 := small_len HI.out HNN.out _ _ hEP
      have h2 := btwE_len s.sd (flat s.p0) (R v / 2 ^ (64 - a) * 2 ^ (64 - a)) (Eof a (R v))
      rw [hfil]
      omega)
    have HUN : Hid (s.a0 < B ∧ ∀ b ∈ blks s.p0, b < B) := Lib.hid (by
      have h1 := HD.out.own_lt
      rw [← HB.out] at h1
      exact ⟨h1 _ (by simp [St.own]), fun b hb => h1 b (by simp [St.own, hb])⟩)
    have HTL := Lib.hid (tell_any HX2.out HD2.out.tab0 HUN.out HD2.out.len0.1 HD2.out.len0.2 hz (by have := HLE.out; simp; omega))
    refine HTL.out.mono ?_
    rintro e W3 ⟨rfl, L', hX3, hP3, hB3⟩
    rw [List.nil_append] at hX3
    have HX3 := Lib.hid hX3
    have HB3 := Lib.hid hB3
    have HSC0 : Hid (∀ L2 v', L2.Perm L' → L2.Pairwise (fun x y => x.data.toList ≤ y.data.toList) → R v' = Eof a (R v) % 18446744073709551616 → ScanR s v v' L2) := Lib.hid (fun L2 v' h1 h2 h3 => by
      refine scan_fin (l1 := flat s.p0) (l2 := []) (lo1 := R v / 2 ^ (64 - a) * 2 ^ (64 - a)) (lo2 := R v) HI.out hEP ha1 ha2 (by omega) (fun x hx => by rw [H1.out] at hx; cases hx) (.inl ha3.symm) h3 ⟨floor_le _ _, floor_self⟩ ⟨Nat.le_refl _, fun _ => rfl⟩ (h1.trans ?_) h2
      rw [hfil] at hP3
      exact hP3.trans (by simp [btwE]))
    have HLL : Hid (L'.length ≤ 274877906944) := Lib.hid (by have h1 := hP3.length_eq; have h2 := HLE.out; rw [List.length_map] at h1; omega)
    have c3 : W3.cell? ⟨B, 0, none⟩ = some (U v) := by rw [Lib.cell_of_heap hX3.cur]; rfl
    have hf3 : W3.frozen? ⟨B, 0, none⟩ = false := Lib.frozen_of_heap hX3.cur _
    have HNX := Lib.hid (next_any v s.p0.length HD2.out.len0.1 HD2.out.len0.2 W3)
    have HRN : Hid (R (nextP v s.p0.length) = Eof a (R v) % 18446744073709551616) := Lib.hid (by rw [ha3, R_next v a (by omega)]; rfl)
    clear hz ha3 hfil hEP hX3 hP3 hB3 HTL
    go_wp2_with fail
    refine HNX.out.mono ?_
    rintro e w' ⟨rfl, rfl⟩
    clear HNX
    obtain ⟨v', hv'⟩ : ∃ v', v' = nextP v s.p0.length := ⟨_, rfl⟩
    rw [← hv'] at HRN ⊢
    clear hv'
    have HX4 := Lib.hid (HX3.out.setcur v')
    have HSC : Hid (∀ L2, L2.Perm L' → L2.Pairwise (fun x y => x.data.toList ≤ y.data.toList) → ScanR s v v' L2) := Lib.hid (fun L2 h1 h2 => HSC0.out L2 v' h1 h2 HRN.out)
    go_wp2_with fail
    obtain ⟨W4, hW4⟩ : ∃ W4, W4 = W3.setCell ⟨B, 0, none⟩ (U v') := ⟨_, rfl⟩
    rw [← hW4] at HX4 ⊢
    have HB4 : Hid (Below B w W4) := Lib.hid ((HBS.out.trans HB3.out).trans HX4.out.2)
    have HX : Hid (Bx W4 B (fun _ => False) B kb v' L') := Lib.hid HX4.out.1
    clear hW4 c3 hf3 HX4 HX3 HX2 HRN
    go_loopg [9] 0 (fun _ b wq => b = .bool false ∧ Hid (wq = W4))
    case atStart => exact ⟨rfl, Lib.hid rfl⟩
    case round =>
      obtain ⟨rfl, HWE⟩ := hrel
      have e := HWE.out
      subst e
      obtain ⟨kv, b1, b2, b3⟩ := HX.out.box
      obtain ⟨A1, cc1, hkv, _⟩ := row_slice b2
      subst hkv
      obtain ⟨n, hnn⟩ : ∃ n, n = L'.length := ⟨_, rfl⟩
      have hso := sort_row b2 (by have := HLL.out; omega)
      rw [← hnn] at hso b1
      have HSO := Lib.hid hso
      have HBX := Lib.hid b1
      have HN := Lib.hid hnn
      have c4 : wr.cell? ⟨kb, 0, none⟩ = some (.slice A1 n cc1) := by rw [Lib.cell_of_heap b1]; rfl
      have hne : B ≠ kb := HX.out.ne
      clear b1 b2 b3 hnn hso
      go_wp2_with fail
      refine HSO.out.mono ?_
      rintro e W5 ⟨rfl, hown, hgr⟩
      have HX5 := Lib.hid (HX.out.sorted HBX.out (by rw [← HN.out]; exact hown) hgr)
      have HOW := Lib.hid hown
      have c5 : W5.cell? ⟨B, 0, none⟩ = some (U v') := by rw [Lib.cell_of_heap HX5.out.1.cur]; rfl
      have c6 : W5.cell? ⟨kb, 0, none⟩ = some (.slice A1 n cc1) := by rw [Lib.cell_of_heap HX5.out.2.2]; rfl
      have hf6 : W5.frozen? ⟨kb, 0, none⟩ = false := Lib.frozen_of_heap HX5.out.2.2 _
      clear hown hgr c4
      go_wp2_with fail
      refine wp_region_q [1,1,0,2] (by kernel_rfl) (by kernel_rfl) ?_
      (refine q_read_n rfl (fun K hK => ?_); go_simp; refine hK _ _ ?_; clear hK K)
      (refine q_read_n rfl (fun K hK => ?_); go_simp; refine hK _ _ ?_; clear hK K)
      (refine q_pure_n rfl (fun K hK => ?_); go_simp; refine hK _ _ ?_; clear hK K)
      (refine q_write_n rfl (fun K hK => ?_); go_simp; refine fun nw => ⟨_, ⟨_, rfl⟩, hK _ _ ?_⟩; clear hK K)
      refine q_nil ?_
      intro nq
      go_wp2_with fail
      have hcE : ((W5.setCell ⟨kb, 0, none⟩ (.slice A1 n cc1)).drewN nq).cell? ⟨kb, 0, none⟩ = some (.slice A1 n cc1) := World.cell?_setCell_same W5 ⟨kb, 0, none⟩ _ c6
      refine bodyPost_ret (results_tmp_cell (ty := 33) (p := 5) (u := 4) rfl _ _ kb (.slice A1 n cc1) rfl (by simp [isAgg, run_underlying Tryd.underlying33]) hcE) rfl ?_
      have hsl : (sortT L').length = n := by rw [HN.out]; exact (sortT_perm L').length_eq
      have hfr : Frm (fun b => b = kb) W5 ((W5.setCell ⟨kb, 0, none⟩ (.slice A1 n cc1)).drewN nq) := (Frm.set (own := fun b => b = kb) (Frm.refl W5) ⟨kb, 0, none⟩ (.slice A1 n cc1) (fun _ => rfl)).drewN nq
      refine ⟨v', .slice A1 n cc1, sortT L', rfl, HSC.out _ (sortT_perm L') (sortT_sorted L'), ?_, ?_⟩
      · rw [hsl, ← HB.out]
        refine hfr.row HOW.out (fun r hr e => ?_)
        obtain ⟨kv5, d1, d2, d3⟩ := HX5.out.1.box
        rw [HX5.out.2.2] at d1
        injection d1 with d1
        injection d1 with d1 _
        injection d1 with d1
        injection d1 with d1 _
        rw [← d1] at d3
        exact (d3 r hr).2.1 e
      · rw [← HB.out]
        refine HB4.out.trans (HX5.out.2.1.trans ⟨rfl, rfl, rfl, hfr.size, fun k hk => hfr.block k ?_ ?_⟩)
        · have h1 := HX5.out.1.lt.1; omega
        · have h1 := HX5.out.1.nkb; omega
  · have H1 := Lib.hid ht
    clear ht
    go_enter Tryd.func13, Tryd.ntmps13
    go_wp2_with fail
    obtain ⟨W, hW⟩ : ∃ W, W = ((w.alloc (.cells #[U v] 22)).alloc (.cells #[.slice none 0 0] 33)) := ⟨_, rfl⟩
    rw [← hW]
    have HBW : Hid (Below w.heap.size w W) := Lib.hid (by rw [hW]; exact ((Below.refl _ _).alloc (Nat.le_refl _) _).alloc (by simp) _)
    have HX0 : Hid (Bx W w.heap.size (fun _ => False) w.heap.size (w.heap.size + 1) v []) := Lib.hid (by
      rw [hW]
      refine ⟨?_, ⟨.slice none 0 0, ?_, World.ownsRow_nil _ _ _ _, fun r e => by cases e⟩, by omega, Nat.le_refl _, by omega⟩
      · rw [heap_alloc_old _ _ (by simp)]
        exact heap_alloc_new w _
      · have := heap_alloc_new (w.alloc (.cells #[U v] 22)) (.cells #[.slice none 0 0] 33)
        simpa using this)
    have HDW := Lib.hid (HD.out.below HBW.out)
    have HG := Lib.hid (gone_no HDW.out)
    clear hW
    refine HG.out.mono ?_
    rintro e w' ⟨rfl, rfl⟩
    clear HG
    have c1 : W.cell? ⟨d, 1, none⟩ = some (.slice (some ⟨s.a0, 0, none⟩) s.p0.length s.p0.length) := by rw [Lib.cell_of_heap HDW.out.top]; rfl
    have c2 : W.cell? ⟨d, 2, none⟩ = some (.slice (some ⟨x.1, 0, none⟩) x.2.length x.2.length) := by rw [Lib.cell_of_heap HDW.out.top]; simp [St.cells, H1.out, t1V]
    obtain ⟨B, hB⟩ : ∃ B, B = w.heap.size := ⟨_, rfl⟩
    rw [← hB] at HX0 HBW ⊢
    obtain ⟨kb, hkb⟩ : ∃ kb, kb = B + 1 := ⟨_, rfl⟩
    rw [← hkb] at HX0 ⊢
    have HB := Lib.hid hB
    clear hkb hB
    go_wp2_with fail
    refine wp_region_q [0,0,0,0,1,0,0,0,0,1,0,0] (by kernel_rfl) (by kernel_rfl) ?_
    (refine q_pure_n rfl (fun K hK => ?_); go_simp; refine hK _ _ ?_; clear hK K)
    (refine q_pure_n rfl (fun K hK => ?_); go_simp; refine hK _ _ ?_; clear hK K)
    (refine q_pure_n rfl (fun K hK => ?_); go_simp; refine hK _ _ ?_; clear hK K)
    (refine q_pure_n rfl (fun K hK => ?_); go_simp; refine hK _ _ ?_; clear hK K)
    (refine q_read_n rfl (fun K hK => ?_); go_simp; refine hK _ _ ?_; clear hK K)
    (refine q_pure_n rfl (fun K hK => ?_); go_simp; refine hK _ _ ?_; clear hK K)
    (refine q_pure_n rfl (fun K hK => ?_); go_simp; refine hK _ _ ?_; clear hK K)
    (refine q_pure_n rfl (fun K hK => ?_); go_simp; refine hK _ _ ?_; clear hK K)
    (refine q_pure_n rfl (fun K hK => ?_); go_simp; refine hK _ _ ?_; clear hK K)
    (refine q_read_n rfl (fun K hK => ?_); go_simp; refine hK _ _ ?_; clear hK K)
    (refine q_pure_n rfl (fun K hK => ?_); go_simp; refine hK _ _ ?_; clear hK K)
    (refine q_pure_n rfl (fun K hK => ?_); go_simp; refine hK _ _ ?_; clear hK K)
    refine q_nil ?_
    intro nq
    have HB2 : Hid (Below B W (W.drewN nq)) := Lib.hid (below_drewN (Below.refl _ _) nq)
    have HD2 : Hid (DAt (W.drewN nq) d s) := Lib.hid (HDW.out.below (below_drewN (Below.refl _ _) nq))
    have HX2 : Hid (Bx (W.drewN nq) B (fun _ => False) B kb v []) := Lib.hid (HX0.out.same ((Frm.refl W).drewN nq) (fun k => k) (fun k => k))
    obtain ⟨W2, hW2⟩ : ∃ W2, W2 = W.drewN nq := ⟨_, rfl⟩
    rw [← hW2] at HB2 HD2 HX2 ⊢
    clear hW2 c1 c2
    have HMV := Lib.hid (moves_any HD2.out)
    rw [H1.out] at HMV
    have HBS : Hid (Below B w W2) := Lib.hid (HBW.out.trans HB2.out)
    clear HBW HB2 HX0 HDW
    by_cases hgt : (x.2.length : Int) < (s.p0.length : Int)
    · have hgt2 := hgt
      go_wp2_with fail
      refine HMV.out.mono ?_
      rintro e w' ⟨rfl, rfl⟩
      clear HMV
      go_wp2_with fail
      obtain ⟨z, hz⟩ : ∃ z, (x.2)[plcV v (x.2).length]? = some z := ⟨_, List.getElem?_eq_getElem (plcV_lt v (HD2.out.len1 x H1.out).1 (HD2.out.len1 x H1.out).2)⟩
      obtain ⟨a, ha1, ha2, ha3⟩ := pw_le (HI.out.pow1 x H1.out) (HD2.out.len1 x H1.out).2
      obtain ⟨b, hb1, hb2, hb3⟩ := pw_le HI.out.pow0 HD2.out.len0.2
      have hab : a ≤ b := by
        refine (Nat.pow_le_pow_iff_right (a := 2) (by omega)).1 ?_
        rw [← ha3, ← hb3]
        omega
      have hfil := place_filter (HI.out.t1 x H1.out) ha3 (by omega) hz
      rw [place_btw] at hfil
      have hEP : s.ents.Perm (flat (x.2) ++ flat (s.p0)) := by unfold St.ents; rw [H1.out]; exact List.perm_append_comm
      have HLE : Hid ((plE z).length ≤ 274877906944 ∧ (flat (s.p0)).length ≤ 274877906944) := Lib.hid (by
        have h1 := small_len HI.out HNN.out _ _ hEP
        have h2 := btwE_len s.sd (flat (x.2)) (R v / 2 ^ (64 - a) * 2 ^ (64 - a)) (Eof a (R v))
        have h3 := small_len HI.out HNN.out _ _ (hEP.trans List.perm_append_comm)
        rw [hfil]
        omega)
      have HUS : Hid (x.1 < B ∧ ∀ b ∈ blks (x.2), b < B) := Lib.hid (by
        have h1 := HD.out.own_lt
        rw [← HB.out] at h1
        exact ⟨h1 _ (by simp [St.own, H1.out]), fun b hb => h1 b (by simp [St.own, H1.out, hb])⟩)
      have HUG : Hid (s.a0 < B ∧ ∀ b ∈ blks (s.p0), b < B) := Lib.hid (by
        have h1 := HD.out.own_lt
        rw [← HB.out] at h1
        exact ⟨h1 _ (by simp [St.own, H1.out]), fun b hb => h1 b (by simp [St.own, H1.out, hb])⟩)
      have HTL := Lib.hid (tell_any HX2.out (HD2.out.tab1 x H1.out) HUS.out (HD2.out.len1 x H1.out).1 (HD2.out.len1 x H1.out).2 hz (by have := HLE.out; simp; omega))
      refine HTL.out.mono ?_
      rintro e W3 ⟨rfl, L', hX3, hP3, hB3⟩
      rw [List.nil_append] at hX3
      have HX3 := Lib.hid hX3
      have HB3 : Hid (Below B w W3) := Lib.hid (HBS.out.trans hB3)
      have HSC0 : Hid (∀ L2 Lg v', L2.Perm (L' ++ Lg) → Lg.Perm ((btwE s.sd (flat (s.p0)) (R v / 2 ^ (64 - b) * 2 ^ (64 - b)) (Eof a (R v))).map (·.1)) → L2.Pairwise (fun x y => x.data.toList ≤ y.data.toList) → R v' = Eof a (R v) % 18446744073709551616 → ScanR s v v' L2) := Lib.hid (fun L2 Lg v' h1 h4 h2 h3 => by
        refine scan_fin (l1 := flat (x.2)) (l2 := flat (s.p0)) (lo1 := R v / 2 ^ (64 - a) * 2 ^ (64 - a)) (lo2 := R v / 2 ^ (64 - b) * 2 ^ (64 - b)) HI.out hEP ha1 ha2 (by omega) (fun y hy => by rw [H1.out] at hy; cases hy; omega) (.inr ⟨x, H1.out, ha3.symm⟩) h3 ⟨floor_le _ _, floor_self⟩ ⟨floor_le _ _, fun e => floor_self ?_⟩ (h1.trans ?_) h2
        · have hd : (2 : Nat) ^ (64 - b) ∣ 2 ^ (64 - a) := Nat.pow_dvd_pow 2 (by omega)
          exact Nat.mod_eq_zero_of_dvd (Nat.dvd_trans hd (Nat.dvd_of_mod_eq_zero e))
        · rw [hfil] at hP3
          exact hP3.append h4)
      have HLS : Hid (L'.length ≤ 274877906944) := Lib.hid (by have h1 := hP3.length_eq; have h2 := HLE.out.1; rw [List.length_map] at h1; omega)
      have hgl : (s.p0).length ≤ 1099511627776 := HD2.out.len0.2
      have hsl : (x.2).length ≤ 1099511627776 := (HD2.out.len1 x H1.out).2
      obtain ⟨m, hm⟩ : ∃ m, (s.p0).length = m + 1 := ⟨(s.p0).length - 1, by have := HD2.out.len0.1; omega⟩
      have e1 : (((s.p0).length : Nat) : Int) - 1 = (m : Int) := by omega
      have HTG : Hid (∀ w', Below B w w' → TabAt w' s.a0 (s.p0)) := Lib.hid (fun w' hb => by
        have h1 := HD.out
        exact h1.tab0.frm (own := fun _ => False) (Frm.of_below (by rw [← HB.out]; exact hb)) id (fun _ _ => id))
      have HA3 := Lib.hid ha3
      have HA4 := Lib.hid hb3
      have HAB := Lib.hid hab
      have HM := Lib.hid hm
      have HBB := Lib.hid (And.intro hb1 hb2)
      clear hz ha3 hb3 hfil hEP hX3 hP3 hB3 HTL ha1 ha2 hm hab hb1 hb2
      go_wp2_with fail
      clear hgt
      go_loopg [9] (Eof a (R v) - R v / 2 ^ (64 - b) * 2 ^ (64 - b)) (fun g bv wq => ∃ (t : Nat) (c : BitVec 64) (Lg : List ByteArray) (bb : Bool), bv = .bool bb ∧ Hid (g = Eof a (R v) - t * 2 ^ (64 - b)) ∧ Hid (bb = decide (t * 2 ^ (64 - b) < Eof a (R v))) ∧ Hid (R v / 2 ^ (64 - b) ≤ t ∧ t * 2 ^ (64 - b) ≤ Eof a (R v) ∧ (t * 2 ^ (64 - b) < Eof a (R v) → R c / 2 ^ (64 - b) = t) ∧ (t * 2 ^ (64 - b) = Eof a (R v) → R c = Eof a (R v) % 18446744073709551616)) ∧ Hid (Bx wq B (fun _ => False) B kb c (L' ++ Lg)) ∧ Hid (Lg.Perm ((btwE s.sd (flat (s.p0)) (R v / 2 ^ (64 - b) * 2 ^ (64 - b)) (t * 2 ^ (64 - b))).map (·.1))) ∧ Hid (Below B w wq))
      case atStart =>
        have h1 := floor_le (64 - b) (R v)
        have h2 := Eof_lt a (R v)
        refine ⟨R v / 2 ^ (64 - b), v, [], true, rfl, Lib.hid rfl, Lib.hid (by rw [decide_eq_true (by omega)]), Lib.hid ⟨Nat.le_refl _, by omega, fun _ => rfl, fun e => by omega⟩, Lib.hid (by rw [List.append_nil]; exact HX3.out), Lib.hid (by rw [btwE_none]; exact List.Perm.refl _), HB3⟩
      case round =>
        obtain ⟨t, c, Lg, bb, rfl, HGK, HBE, HT, HX, HLG, HB4⟩ := hrel
        clear HX3 HB3
        have HLL : Hid ((L' ++ Lg).length ≤ 549755813888) := Lib.hid (by
          have h1 := HLG.out.length_eq
          have h2 := btwE_len s.sd (flat (s.p0)) (R v / 2 ^ (64 - b) * 2 ^ (64 - b)) (t * 2 ^ (64 - b))
          have h3 := HLE.out.2
          have h4 := HLS.out
          rw [List.length_map] at h1
          rw [List.length_append]
          omega)
        cases bb with
        | true =>
          have HLT : Hid (t * 2 ^ (64 - b) < Eof a (R v)) := Lib.hid (of_decide_eq_true HBE.out.symm)
          have HST := Lib.hid (scan_step HAB.out (by have := HBB.out.2; omega) HT.out.1 HLT.out)
          have hTG := HTG.out _ HB4.out
          obtain ⟨z2, hz2⟩ : ∃ z2, (s.p0)[plcV c (s.p0).length]? = some z2 := ⟨_, List.getElem?_eq_getElem (plcV_lt c HD2.out.len0.1 HD2.out.len0.2)⟩
          have hfil2 := place_filter HI.out.t0 HA4.out (by have := HBB.out.2; omega) hz2
          rw [HT.out.2.2.1 HLT.out] at hfil2
          have HFL := Lib.hid hfil2
          have HTL := Lib.hid (tell_any HX.out hTG HUG.out HD2.out.len0.1 HD2.out.len0.2 hz2 (by
            have h1 := HLL.out
            have h2 := HLE.out.2
            rw [hfil2]
            have h3 := List.length_filter_le (fun y : ByteArray × Int => decide (Hk s.sd y.1 / 2 ^ (64 - b) = t)) (flat (s.p0))
            omega))
          clear hfil2 hz2 hTG
          go_wp2_with fail
          refine HTL.out.mono ?_
          rintro e W4 ⟨rfl, L2, hX4, hP4, hB5⟩
          have HX4 := Lib.hid hX4
          have HP4 := Lib.hid hP4
          have HB5 : Hid (Below B w W4) := Lib.hid (HB4.out.trans hB5)
          have c3 : W4.cell? ⟨B, 0, none⟩ = some (U c) := by rw [Lib.cell_of_heap hX4.cur]; rfl
          have hf3 : W4.frozen? ⟨B, 0, none⟩ = false := Lib.frozen_of_heap hX4.cur _
          have HNX := Lib.hid (next_any c (s.p0).length HD2.out.len0.1 HD2.out.len0.2 W4)
          obtain ⟨c', hc'⟩ : ∃ c', c' = nextP c (s.p0).length := ⟨_, rfl⟩
          rw [← hc'] at HNX
          have HRN : Hid (R c' = (t + 1) * 2 ^ (64 - b) % 18446744073709551616) := Lib.hid (by rw [hc', HA4.out, R_next c b (by have := HBB.out.2; omega), HT.out.2.2.1 HLT.out])
          obtain ⟨i, hi⟩ : ∃ i, i = plcV c' (s.p0).length := ⟨_, rfl⟩
          have HIE := Lib.hid hi
          have hAN : ∀ (w : World) (t : TypeId), (binOp .and t (U c') (.int .u64 (m : Int))).run Tryd.prog w = .ok (.int .u64 (i : Int)) w := fun w t => by
            have hmm : m < 18446744073709551616 := by have h1 := HM.out; omega
            rw [run_andM Tryd.prog t w c' m hmm, hi, HM.out]
            rfl
          have hiB : i < 1099511627776 := by rw [hi]; have := plcV_lt c' HD2.out.len0.1 HD2.out.len0.2; omega
          have HX5 := Lib.hid (HX4.out.setcur c')
          have c5 : (W4.setCell ⟨B, 0, none⟩ (U c')).cell? ⟨B, 0, none⟩ = some (U c') := by rw [Lib.cell_of_heap HX5.out.1.cur]; rfl
          clear hX4 hP4 hB5 hc' hi HTL
          go_wp2_with fail
          refine HNX.out.mono ?_
          rintro e w' ⟨rfl, rfl⟩
          clear HNX
          go_wp2_with fail
          go_roundg (Eof a (R v) - (t + 1) * 2 ^ (64 - b))
          case measure =>
            have h1 := HLT.out
            have h2 := HGK.out
            have h3 := Nat.two_pow_pos (64 - b)
            rw [h2, Nat.succ_mul]
            omega
          case rel =>
            refine ⟨t + 1, c', Lg ++ L2, decide (List.length (x.2) ≤ i), rfl, Lib.hid rfl, Lib.hid ?_, Lib.hid ⟨by have := HT.out.1; omega, HST.out.1, fun e => ?_, fun e => by rw [← e]; exact HRN.out⟩, Lib.hid (by rw [← List.append_assoc]; exact HX5.out.1), Lib.hid ?_, Lib.hid (HB5.out.trans HX5.out.2)⟩
            · have h1 : (2 ^ (64 - b) : Nat) ∣ 18446744073709551616 := by
                rw [show (18446744073709551616 : Nat) = 2 ^ 64 from rfl]
                exact Nat.pow_dvd_pow 2 (by omega)
              have h2 : R c' % 2 ^ (64 - b) = 0 := by rw [HRN.out, Nat.mod_mod_of_dvd _ h1, Nat.mul_mod_left]
              have h3 := low_eq c' a b HAB.out (by have := HBB.out.2; omega) h2
              have h4 : i = c'.toNat % 2 ^ b := by rw [HIE.out, HA4.out]; exact and_mod c' b (by have := HBB.out.2; omega)
              rw [← h4, HRN.out, HST.out.2, ← HA3.out] at h3
              have h5 := HST.out.1
              refine decide_eq_decide.2 ?_
              omega
            · rw [HRN.out]
              have h5 := Eof_le a (R v) (by have h6 := HAB.out; have h7 := HBB.out.2; omega) (R_lt v)
              rw [Nat.mod_eq_of_lt (by omega), Nat.mul_div_cancel _ (Nat.two_pow_pos _)]
            · have h6 := (HLG.out.append (HP4.out.trans (List.Perm.of_eq (by rw [HFL.out]))))
              refine h6.trans ?_
              rw [← List.map_append]
              exact (btwE_more s.sd (flat (s.p0)) (64 - b) _ t HT.out.1).map _
        | false =>
          have HEQ : Hid (t * 2 ^ (64 - b) = Eof a (R v)) := Lib.hid (by have h1 := of_decide_eq_false HBE.out.symm; have h2 := HT.out.2.1; omega)
          have HSC : Hid (∀ L2, L2.Perm (L' ++ Lg) → L2.Pairwise (fun x y => x.data.toList ≤ y.data.toList) → ScanR s v c L2) := Lib.hid (fun L2 h1 h2 => HSC0.out L2 Lg c h1 (by rw [← HEQ.out]; exact HLG.out) h2 (HT.out.2.2.2 HEQ.out))
          obtain ⟨kv, b1, b2, b3⟩ := HX.out.box
          obtain ⟨A1, cc1, hkv, _⟩ := row_slice b2
          subst hkv
          obtain ⟨n, hnn⟩ : ∃ n, n = (L' ++ Lg).length := ⟨_, rfl⟩
          have hso := sort_row b2 (by have := HLL.out; omega)
          rw [← hnn] at hso b1
          have HSO := Lib.hid hso
          have HBX := Lib.hid b1
          have HN := Lib.hid hnn
          have c4 : wr.cell? ⟨kb, 0, none⟩ = some (.slice A1 n cc1) := by rw [Lib.cell_of_heap b1]; rfl
          have hne : B ≠ kb := HX.out.ne
          clear b1 b2 b3 hnn hso
          go_wp2_with fail
          refine HSO.out.mono ?_
          rintro e W5 ⟨rfl, hown, hgr⟩
          have HX5 := Lib.hid (HX.out.sorted HBX.out (by rw [← HN.out]; exact hown) hgr)
          have HOW := Lib.hid hown
          have c5 : W5.cell? ⟨B, 0, none⟩ = some (U c) := by rw [Lib.cell_of_heap HX5.out.1.cur]; rfl
          have c6 : W5.cell? ⟨kb, 0, none⟩ = some (.slice A1 n cc1) := by rw [Lib.cell_of_heap HX5.out.2.2]; rfl
          have hf6 : W5.frozen? ⟨kb, 0, none⟩ = false := Lib.frozen_of_heap HX5.out.2.2 _
          clear hown hgr c4
          go_wp2_with fail
          refine wp_region_q [1,1,0,2] (by kernel_rfl) (by kernel_rfl) ?_
          (refine q_read_n rfl (fun K hK => ?_); go_simp; refine hK _ _ ?_; clear hK K)
          (refine q_read_n rfl (fun K hK => ?_); go_simp; refine hK _ _ ?_; clear hK K)
          (refine q_pure_n rfl (fun K hK => ?_); go_simp; refine hK _ _ ?_; clear hK K)
          (refine q_write_n rfl (fun K hK => ?_); go_simp; refine fun nw => ⟨_, ⟨_, rfl⟩, hK _ _ ?_⟩; clear hK K)
          refine q_nil ?_
          intro nq
          go_wp2_with fail
          have hcE : ((W5.setCell ⟨kb, 0, none⟩ (.slice A1 n cc1)).drewN nq).cell? ⟨kb, 0, none⟩ = some (.slice A1 n cc1) := World.cell?_setCell_same W5 ⟨kb, 0, none⟩ _ c6
          refine bodyPost_ret (results_tmp_cell (ty := 33) (p := 5) (u := 4) rfl _ _ kb (.slice A1 n cc1) rfl (by simp [isAgg, run_underlying Tryd.underlying33]) hcE) rfl ?_
          have hsl : (sortT (L' ++ Lg)).length = n := by rw [HN.out]; exact (sortT_perm (L' ++ Lg)).length_eq
          have hfr : Frm (fun b => b = kb) W5 ((W5.setCell ⟨kb, 0, none⟩ (.slice A1 n cc1)).drewN nq) := (Frm.set (own := fun b => b = kb) (Frm.refl W5) ⟨kb, 0, none⟩ (.slice A1 n cc1) (fun _ => rfl)).drewN nq
          refine ⟨c, .slice A1 n cc1, sortT (L' ++ Lg), rfl, HSC.out _ (sortT_perm (L' ++ Lg)) (sortT_sorted (L' ++ Lg)), ?_, ?_⟩
          · rw [hsl, ← HB.out]
            refine hfr.row HOW.out (fun r hr e => ?_)
            obtain ⟨kv5, d1, d2, d3⟩ := HX5.out.1.box
            rw [HX5.out.2.2] at d1
            injection d1 with d1
            injection d1 with d1 _
            injection d1 with d1
            injection d1 with d1 _
            rw [← d1] at d3
            exact (d3 r hr).2.1 e
          · rw [← HB.out]
            refine HB4.out.trans (HX5.out.2.1.trans ⟨rfl, rfl, rfl, hfr.size, fun k hk => hfr.block k ?_ ?_⟩)
            · have h1 := HX5.out.1.lt.1; omega
            · have h1 := HX5.out.1.nkb; omega
    · have hgt2 := hgt
      go_wp2_with fail
      refine HMV.out.mono ?_
      rintro e w' ⟨rfl, rfl⟩
      clear HMV
      go_wp2_with fail
      obtain ⟨z, hz⟩ : ∃ z, (s.p0)[plcV v (s.p0).length]? = some z := ⟨_, List.getElem?_eq_getElem (plcV_lt v HD2.out.len0.1 HD2.out.len0.2)⟩
      obtain ⟨a, ha1, ha2, ha3⟩ := pw_le HI.out.pow0 HD2.out.len0.2
      obtain ⟨b, hb1, hb2, hb3⟩ := pw_le (HI.out.pow1 x H1.out) (HD2.out.len1 x H1.out).2
      have hab : a ≤ b := by
        refine (Nat.pow_le_pow_iff_right (a := 2) (by omega)).1 ?_
        rw [← ha3, ← hb3]
        omega
      have hfil := place_filter HI.out.t0 ha3 (by omega) hz
      rw [place_btw] at hfil
      have hEP : s.ents.Perm (flat (s.p0) ++ flat (x.2)) := by unfold St.ents; rw [H1.out]; exact List.Perm.refl _
      have HLE : Hid ((plE z).length ≤ 274877906944 ∧ (flat (x.2)).length ≤ 274877906944) := Lib.hid (by
        have h1 := small_len HI.out HNN.out _ _ hEP
        have h2 := btwE_len s.sd (flat (s.p0)) (R v / 2 ^ (64 - a) * 2 ^ (64 - a)) (Eof a (R v))
        have h3 := small_len HI.out HNN.out _ _ (hEP.trans List.perm_append_comm)
        rw [hfil]
        omega)
      have HUS : Hid (s.a0 < B ∧ ∀ b ∈ blks (s.p0), b < B) := Lib.hid (by
        have h1 := HD.out.own_lt
        rw [← HB.out] at h1
        exact ⟨h1 _ (by simp [St.own, H1.out]), fun b hb => h1 b (by simp [St.own, H1.out, hb])⟩)
      have HUG : Hid (x.1 < B ∧ ∀ b ∈ blks (x.2), b < B) := Lib.hid (by
        have h1 := HD.out.own_lt
        rw [← HB.out] at h1
        exact ⟨h1 _ (by simp [St.own, H1.out]), fun b hb => h1 b (by simp [St.own, H1.out, hb])⟩)
      have HTL := Lib.hid (tell_any HX2.out HD2.out.tab0 HUS.out HD2.out.len0.1 HD2.out.len0.2 hz (by have := HLE.out; simp; omega))
      refine HTL.out.mono ?_
      rintro e W3 ⟨rfl, L', hX3, hP3, hB3⟩
      rw [List.nil_append] at hX3
      have HX3 := Lib.hid hX3
      have HB3 : Hid (Below B w W3) := Lib.hid (HBS.out.trans hB3)
      have HSC0 : Hid (∀ L2 Lg v', L2.Perm (L' ++ Lg) → Lg.Perm ((btwE s.sd (flat (x.2)) (R v / 2 ^ (64 - b) * 2 ^ (64 - b)) (Eof a (R v))).map (·.1)) → L2.Pairwise (fun x y => x.data.toList ≤ y.data.toList) → R v' = Eof a (R v) % 18446744073709551616 → ScanR s v v' L2) := Lib.hid (fun L2 Lg v' h1 h4 h2 h3 => by
        refine scan_fin (l1 := flat (s.p0)) (l2 := flat (x.2)) (lo1 := R v / 2 ^ (64 - a) * 2 ^ (64 - a)) (lo2 := R v / 2 ^ (64 - b) * 2 ^ (64 - b)) HI.out hEP ha1 ha2 (by omega) (fun y hy => by rw [H1.out] at hy; cases hy; omega) (.inl ha3.symm) h3 ⟨floor_le _ _, floor_self⟩ ⟨floor_le _ _, fun e => floor_self ?_⟩ (h1.trans ?_) h2
        · have hd : (2 : Nat) ^ (64 - b) ∣ 2 ^ (64 - a) := Nat.pow_dvd_pow 2 (by omega)
          exact Nat.mod_eq_zero_of_dvd (Nat.dvd_trans hd (Nat.dvd_of_mod_eq_zero e))
        · rw [hfil] at hP3
          exact hP3.append h4)
      have HLS : Hid (L'.length ≤ 274877906944) := Lib.hid (by have h1 := hP3.length_eq; have h2 := HLE.out.1; rw [List.length_map] at h1; omega)
      have hgl : (x.2).length ≤ 1099511627776 := (HD2.out.len1 x H1.out).2
      have hsl : (s.p0).length ≤ 1099511627776 := HD2.out.len0.2
      obtain ⟨m, hm⟩ : ∃ m, (x.2).length = m + 1 := ⟨(x.2).length - 1, by have := (HD2.out.len1 x H1.out).1; omega⟩
      have e1 : (((x.2).length : Nat) : Int) - 1 = (m : Int) := by omega
      have HTG : Hid (∀ w', Below B w w' → TabAt w' x.1 (x.2)) := Lib.hid (fun w' hb => by
        have h1 := HD.out
        exact (h1.tab1 x H1.out).frm (own := fun _ => False) (Frm.of_below (by rw [← HB.out]; exact hb)) id (fun _ _ => id))
      have HA3 := Lib.hid ha3
      have HA4 := Lib.hid hb3
      have HAB := Lib.hid hab
      have HM := Lib.hid hm
      have HBB := Lib.hid (And.intro hb1 hb2)
      clear hz ha3 hb3 hfil hEP hX3 hP3 hB3 HTL ha1 ha2 hm hab hb1 hb2
      go_wp2_with fail
      clear hgt
      go_loopg [9] (Eof a (R v) - R v / 2 ^ (64 - b) * 2 ^ (64 - b)) (fun g bv wq => ∃ (t : Nat) (c : BitVec 64) (Lg : List ByteArray) (bb : Bool), bv = .bool bb ∧ Hid (g = Eof a (R v) - t * 2 ^ (64 - b)) ∧ Hid (bb = decide (t * 2 ^ (64 - b) < Eof a (R v))) ∧ Hid (R v / 2 ^ (64 - b) ≤ t ∧ t * 2 ^ (64 - b) ≤ Eof a (R v) ∧ (t * 2 ^ (64 - b) < Eof a (R v) → R c / 2 ^ (64 - b) = t) ∧ (t * 2 ^ (64 - b) = Eof a (R v) → R c = Eof a (R v) % 18446744073709551616)) ∧ Hid (Bx wq B (fun _ => False) B kb c (L' ++ Lg)) ∧ Hid (Lg.Perm ((btwE s.sd (flat (x.2)) (R v / 2 ^ (64 - b) * 2 ^ (64 - b)) (t * 2 ^ (64 - b))).map (·.1))) ∧ Hid (Below B w wq))
      case atStart =>
        have h1 := floor_le (64 - b) (R v)
        have h2 := Eof_lt a (R v)
        refine ⟨R v / 2 ^ (64 - b), v, [], true, rfl, Lib.hid rfl, Lib.hid (by rw [decide_eq_true (by omega)]), Lib.hid ⟨Nat.le_refl _, by omega, fun _ => rfl, fun e => by omega⟩, Lib.hid (by rw [List.append_nil]; exact HX3.out), Lib.hid (by rw [btwE_none]; exact List.Perm.refl _), HB3⟩
      case round =>
        obtain ⟨t, c, Lg, bb, rfl, HGK, HBE, HT, HX, HLG, HB4⟩ := hrel
        clear HX3 HB3
        have HLL : Hid ((L' ++ Lg).length ≤ 549755813888) := Lib.hid (by
          have h1 := HLG.out.length_eq
          have h2 := btwE_len s.sd (flat (x.2)) (R v / 2 ^ (64 - b) * 2 ^ (64 - b)) (t * 2 ^ (64 - b))
          have h3 := HLE.out.2
          have h4 := HLS.out
          rw [List.length_map] at h1
          rw [List.length_append]
          omega)
        cases bb with
        | true =>
          have HLT : Hid (t * 2 ^ (64 - b) < Eof a (R v)) := Lib.hid (of_decide_eq_true HBE.out.symm)
          have HST := Lib.hid (scan_step HAB.out (by have := HBB.out.2; omega) HT.out.1 HLT.out)
          have hTG := HTG.out _ HB4.out
          obtain ⟨z2, hz2⟩ : ∃ z2, (x.2)[plcV c (x.2).length]? = some z2 := ⟨_, List.getElem?_eq_getElem (plcV_lt c (HD2.out.len1 x H1.out).1 (HD2.out.len1 x H1.out).2)⟩
          have hfil2 := place_filter (HI.out.t1 x H1.out) HA4.out (by have := HBB.out.2; omega) hz2
          rw [HT.out.2.2.1 HLT.out] at hfil2
          have HFL := Lib.hid hfil2
          have HTL := Lib.hid (tell_any HX.out hTG HUG.out (HD2.out.len1 x H1.out).1 (HD2.out.len1 x H1.out).2 hz2 (by
            have h1 := HLL.out
            have h2 := HLE.out.2
            rw [hfil2]
            have h3 := List.length_filter_le (fun y : ByteArray × Int => decide (Hk s.sd y.1 / 2 ^ (64 - b) = t)) (flat (x.2))
            omega))
          clear hfil2 hz2 hTG
          go_wp2_with fail
          refine HTL.out.mono ?_
          rintro e W4 ⟨rfl, L2, hX4, hP4, hB5⟩
          have HX4 := Lib.hid hX4
          have HP4 := Lib.hid hP4
          have HB5 : Hid (Below B w W4) := Lib.hid (HB4.out.trans hB5)
          have c3 : W4.cell? ⟨B, 0, none⟩ = some (U c) := by rw [Lib.cell_of_heap hX4.cur]; rfl
          have hf3 : W4.frozen? ⟨B, 0, none⟩ = false := Lib.frozen_of_heap hX4.cur _
          have HNX := Lib.hid (next_any c (x.2).length (HD2.out.len1 x H1.out).1 (HD2.out.len1 x H1.out).2 W4)
          obtain ⟨c', hc'⟩ : ∃ c', c' = nextP c (x.2).length := ⟨_, rfl⟩
          rw [← hc'] at HNX
          have HRN : Hid (R c' = (t + 1) * 2 ^ (64 - b) % 18446744073709551616) := Lib.hid (by rw [hc', HA4.out, R_next c b (by have := HBB.out.2; omega), HT.out.2.2.1 HLT.out])
          obtain ⟨i, hi⟩ : ∃ i, i = plcV c' (x.2).length := ⟨_, rfl⟩
          have HIE := Lib.hid hi
          have hAN : ∀ (w : World) (t : TypeId), (binOp .and t (U c') (.int .u64 (m : Int))).run Tryd.prog w = .ok (.int .u64 (i : Int)) w := fun w t => by
            have hmm : m < 18446744073709551616 := by have h1 := HM.out; omega
            rw [run_andM Tryd.prog t w c' m hmm, hi, HM.out]
            rfl
          have hiB : i < 1099511627776 := by rw [hi]; have := plcV_lt c' (HD2.out.len1 x H1.out).1 (HD2.out.len1 x H1.out).2; omega
          have HX5 := Lib.hid (HX4.out.setcur c')
          have c5 : (W4.setCell ⟨B, 0, none⟩ (U c')).cell? ⟨B, 0, none⟩ = some (U c') := by rw [Lib.cell_of_heap HX5.out.1.cur]; rfl
          clear hX4 hP4 hB5 hc' hi HTL
          go_wp2_with fail
          refine HNX.out.mono ?_
          rintro e w' ⟨rfl, rfl⟩
          clear HNX
          go_wp2_with fail
          go_roundg (Eof a (R v) - (t + 1) * 2 ^ (64 - b))
          case measure =>
            have h1 := HLT.out
            have h2 := HGK.out
            have h3 := Nat.two_pow_pos (64 - b)
            rw [h2, Nat.succ_mul]
            omega
          case rel =>
            refine ⟨t + 1, c', Lg ++ L2, decide (List.length (s.p0) ≤ i), rfl, Lib.hid rfl, Lib.hid ?_, Lib.hid ⟨by have := HT.out.1; omega, HST.out.1, fun e => ?_, fun e => by rw [← e]; exact HRN.out⟩, Lib.hid (by rw [← List.append_assoc]; exact HX5.out.1), Lib.hid ?_, Lib.hid (HB5.out.trans HX5.out.2)⟩
            · have h1 : (2 ^ (64 - b) : Nat) ∣ 18446744073709551616 := by
                rw [show (18446744073709551616 : Nat) = 2 ^ 64 from rfl]
                exact Nat.pow_dvd_pow 2 (by omega)
              have h2 : R c' % 2 ^ (64 - b) = 0 := by rw [HRN.out, Nat.mod_mod_of_dvd _ h1, Nat.mul_mod_left]
              have h3 := low_eq c' a b HAB.out (by have := HBB.out.2; omega) h2
              have h4 : i = c'.toNat % 2 ^ b := by rw [HIE.out, HA4.out]; exact and_mod c' b (by have := HBB.out.2; omega)
              rw [← h4, HRN.out, HST.out.2, ← HA3.out] at h3
              have h5 := HST.out.1
              refine decide_eq_decide.2 ?_
              omega
            · rw [HRN.out]
              have h5 := Eof_le a (R v) (by have h6 := HAB.out; have h7 := HBB.out.2; omega) (R_lt v)
              rw [Nat.mod_eq_of_lt (by omega), Nat.mul_div_cancel _ (Nat.two_pow_pos _)]
            · have h6 := (HLG.out.append (HP4.out.trans (List.Perm.of_eq (by rw [HFL.out]))))
              refine h6.trans ?_
              rw [← List.map_append]
              exact (btwE_more s.sd (flat (x.2)) (64 - b) _ t HT.out.1).map _
        | false =>
          have HEQ : Hid (t * 2 ^ (64 - b) = Eof a (R v)) := Lib.hid (by have h1 := of_decide_eq_false HBE.out.symm; have h2 := HT.out.2.1; omega)
          have HSC : Hid (∀ L2, L2.Perm (L' ++ Lg) → L2.Pairwise (fun x y => x.data.toList ≤ y.data.toList) → ScanR s v c L2) := Lib.hid (fun L2 h1 h2 => HSC0.out L2 Lg c h1 (by rw [← HEQ.out]; exact HLG.out) h2 (HT.out.2.2.2 HEQ.out))
          obtain ⟨kv, b1, b2, b3⟩ := HX.out.box
          obtain ⟨A1, cc1, hkv, _⟩ := row_slice b2
          subst hkv
          obtain ⟨n, hnn⟩ : ∃ n, n = (L' ++ Lg).length := ⟨_, rfl⟩
          have hso := sort_row b2 (by have := HLL.out; omega)
          rw [← hnn] at hso b1
          have HSO := Lib.hid hso
          have HBX := Lib.hid b1
          have HN := Lib.hid hnn
          have c4 : wr.cell? ⟨kb, 0, none⟩ = some (.slice A1 n cc1) := by rw [Lib.cell_of_heap b1]; rfl
          have hne : B ≠ kb := HX.out.ne
          clear b1 b2 b3 hnn hso
          go_wp2_with fail
          refine HSO.out.mono ?_
          rintro e W5 ⟨rfl, hown, hgr⟩
          have HX5 := Lib.hid (HX.out.sorted HBX.out (by rw [← HN.out]; exact hown) hgr)
          have HOW := Lib.hid hown
          have c5 : W5.cell? ⟨B, 0, none⟩ = some (U c) := by rw [Lib.cell_of_heap HX5.out.1.cur]; rfl
          have c6 : W5.cell? ⟨kb, 0, none⟩ = some (.slice A1 n cc1) := by rw [Lib.cell_of_heap HX5.out.2.2]; rfl
          have hf6 : W5.frozen? ⟨kb, 0, none⟩ = false := Lib.frozen_of_heap HX5.out.2.2 _
          clear hown hgr c4
          go_wp2_with fail
          refine wp_region_q [1,1,0,2] (by kernel_rfl) (by kernel_rfl) ?_
          (refine q_read_n rfl (fun K hK => ?_); go_simp; refine hK _ _ ?_; clear hK K)
          (refine q_read_n rfl (fun K hK => ?_); go_simp; refine hK _ _ ?_; clear hK K)
          (refine q_pure_n rfl (fun K hK => ?_); go_simp; refine hK _ _ ?_; clear hK K)
          (refine q_write_n rfl (fun K hK => ?_); go_simp; refine fun nw => ⟨_, ⟨_, rfl⟩, hK _ _ ?_⟩; clear hK K)
          refine q_nil ?_
          intro nq
          go_wp2_with fail
          have hcE : ((W5.setCell ⟨kb, 0, none⟩ (.slice A1 n cc1)).drewN nq).cell? ⟨kb, 0, none⟩ = some (.slice A1 n cc1) := World.cell?_setCell_same W5 ⟨kb, 0, none⟩ _ c6
          refine bodyPost_ret (results_tmp_cell (ty := 33) (p := 5) (u := 4) rfl _ _ kb (.slice A1 n cc1) rfl (by simp [isAgg, run_underlying Tryd.underlying33]) hcE) rfl ?_
          have hsl : (sortT (L' ++ Lg)).length = n := by rw [HN.out]; exact (sortT_perm (L' ++ Lg)).length_eq
          have hfr : Frm (fun b => b = kb) W5 ((W5.setCell ⟨kb, 0, none⟩ (.slice A1 n cc1)).drewN nq) := (Frm.set (own := fun b => b = kb) (Frm.refl W5) ⟨kb, 0, none⟩ (.slice A1 n cc1) (fun _ => rfl)).drewN nq
          refine ⟨c, .slice A1 n cc1, sortT (L' ++ Lg), rfl, HSC.out _ (sortT_perm (L' ++ Lg)) (sortT_sorted (L' ++ Lg)), ?_, ?_⟩
          · rw [hsl, ← HB.out]
            refine hfr.row HOW.out (fun r hr e => ?_)
            obtain ⟨kv5, d1, d2, d3⟩ := HX5.out.1.box
            rw [HX5.out.2.2] at d1
            injection d1 with d1
            injection d1 with d1 _
            injection d1 with d1
            injection d1 with d1 _
            rw [← d1] at d3
            exact (d3 r hr).2.1 e
          · rw [← HB.out]
            refine HB4.out.trans (HX5.out.2.1.trans ⟨rfl, rfl, rfl, hfr.size, fun k hk => hfr.block k ?_ ?_⟩)
            · have h1 := HX5.out.1.lt.1; omega
            · have h1 := HX5.out.1.nkb; omega
end Go.Proofs.YtnoalklbgncajaaDoor.Dct
