/- Chapter 09: All: its function over a round. -/
import Derived.RangeFuncNested
import Derived.RangeFuncBound
import Derived.RangeFuncCalls
import Derived.RangeFuncLeaves
import Derived.Shelf.Abstract
import Derived.Shelf.RegionOpen
import Derived.WalkKit
import Derived.OwnWalkIn
import Derived.TacticsInMore
import Derived.LoopNIn
import Derived.LoopIn
import Derived.Test.YtmlaackdcnpjmaaDoorAl09
namespace Go.Proofs.YtmlaackdcnpjmaaDoor.Skp
open Go Go.RowKit Go.Proofs.YtmlaackdcnpjmaaDoor.Pin Go.Proofs.YtmlaackdcnpjmaaDoor.Flt
attribute [local go_sem] Oper.semAt_some
attribute [local go_sem high] run_store_F
theorem abide {β : Type} {B : Nat} {J : β → World → Prop} (hJ : AbidesFrom B J) {s : β} {W W' : World} (hs : J s W) (hb : Below W.heap.size W W') : J s W' :=
  hJ s W W' none hs ⟨hb.os, hb.tape, hb.output, hb.size, fun k hk _ => hb.block k hk⟩ (fun r e => by cases e)
theorem inf_nums : fEq negF negF = true ∧ fEq infF infF = true := ⟨by decide +kernel, by decide +kernel⟩
theorem key_top {x : Nat} (h : Num x) : keyI negF ≤ keyI x ∧ keyI x ≤ keyI infF := by
  have e1 : keyI infF = (rungK (2047 * 2 ^ 52) : Int) := rfl
  have e2 : keyI negF = -(rungK (2047 * 2 ^ 52) : Int) := rfl
  have h1 : rungK (rung x) ≤ rungK (2047 * 2 ^ 52) := by
    rcases Nat.lt_or_eq_of_le (show rung x ≤ 2047 * 2 ^ 52 from h) with k | k
    · exact Nat.le_of_lt (rungK_lt k)
    · rw [k]; exact Nat.le_refl _
  generalize hA : rungK (2047 * 2 ^ 52) = A at e1 e2 h1
  rw [e1, e2]
  unfold keyI
  split <;> omega
theorem btw_all {L : List Sc} (h : Srt L) : btwL negF infF false false L = L := by
  unfold btwL
  rw [List.filter_eq_self]
  intro m hm
  have hn := (h.cn m hm).num
  have hk := key_top hn
  have h1 : loB negF false m = false := by
    rw [← Bool.not_eq_true, lo_iff (num_of inf_nums.1) hn]
    rintro (k | ⟨k, _⟩)
    · omega
    · cases k
  have h2 : hiB infF false m = true := by
    rw [hi_iff (num_of inf_nums.2) hn]
    rcases Int.lt_or_eq_of_le hk.2 with k | k
    · exact .inl k
    · exact .inr ⟨rfl, k⟩
  rw [h1, h2]
  rfl
/-- the array of the slice that box B holds is not block k -/
def NotIn (B : Nat) (W : World) (k : Nat) : Prop := ∀ v, W.cell? ⟨B, 0, none⟩ = some v → v.ownBlock ≠ some k
/-- what a round keeps that turns its box B, and the array of the slice in it -/
def KpA (B : Nat) (A C : World) : Prop :=
  A.heap.size ≤ C.heap.size ∧ ∀ k o, A.heap[k]? = some o → o.isCells = true → k ≠ B → NotIn B A k → C.heap[k]? = A.heap[k]? ∧ NotIn B C k
theorem kpA_t {B : Nat} {X Y Z : World} (h : KpA B X Y) (k : KpA B Y Z) : KpA B X Z := by
  refine ⟨Nat.le_trans h.1 k.1, fun r o hr hc hn hi => ?_⟩
  obtain ⟨h1, h2⟩ := h.2 r o hr hc hn hi
  obtain ⟨k1, k2⟩ := k.2 r o (h1.trans hr) hc hn h2
  exact ⟨k1.trans h1, k2⟩
theorem kpA_b {B n : Nat} (hB : B < n) (W : World) (l : Nat) (o o' : Obj) (hl : n ≤ l) (ho : W.heap[l]? = some o) (hc : o.isCells = false) (_ : o.isWalk = false) : KpA B W (W.putObj l o') := by
  refine ⟨by simp, fun k q hk hq hn hi => ⟨World.putObj_heap_other (fun e => ?_), fun v hv => hi v ?_⟩⟩
  · subst e
    rw [ho] at hk
    cases hk
    rw [hc] at hq
    cases hq
  · have e : (W.putObj l o').heap[B]? = W.heap[B]? := World.putObj_heap_other (by omega)
    rw [← hv]
    unfold World.cell?
    simp only [e]
theorem mems_at {w : World} {ok : Nat → Prop} {v : Value} {l : List Sc} (h : Mems w ok v l) : ∃ A c, v = .slice A l.length c ∧ (0 < l.length → ∃ r, A = some ⟨r, 0, none⟩ ∧ ok r ∧ r < w.heap.size ∧ ∀ j (h : j < l.length), w.cell? ⟨r, j * 2, none⟩ = some (.string l[j].1) ∧ w.cell? ⟨r, j * 2 + 1, none⟩ = some (.float .f64 l[j].2)) := by
  obtain ⟨A, c, e, h⟩ := h
  refine ⟨A, c, e, fun h0 => ?_⟩
  obtain ⟨r, e1, h1, h2, h3⟩ := h h0
  refine ⟨r, e1, h1, h2, fun j hj => ?_⟩
  obtain ⟨cs, _, e2, h4⟩ := h3 j hj
  have e3 : cs = [Value.string l[j].1, .float .f64 l[j].2] := e2
  subst e3
  exact ⟨h4 0 _ rfl, h4 1 _ rfl⟩
/-- the slice that the rounds come out of, in block r, lies as it lay -/
structure ItR (B r : Nat) (W3 wr : World) : Prop where
  same : wr.heap[r]? = W3.heap[r]?
  out : NotIn B wr r
  box : B < wr.heap.size
theorem ItR.below {B r : Nat} {W3 wr w' : World} (h : ItR B r W3 wr) (hr : r < wr.heap.size) (hb : Below wr.heap.size wr w') : ItR B r W3 w' := by
  refine ⟨(hb.block r hr).trans h.same, fun v hv => h.out v ?_, by have := h.box; have := hb.size; omega⟩
  rw [← hv]
  exact (hb.cell (p := ⟨B, 0, none⟩) h.box).symm
theorem ItR.kp {B r : Nat} {W3 wr w' : World} (h : ItR B r W3 wr) {o : Obj} (h3 : W3.heap[r]? = some o) (hc : o.isCells = true) (hn : r ≠ B) (hk : KpA B wr w') : ItR B r W3 w' := by
  obtain ⟨h1, h2⟩ := hk.2 r o (h.same.trans h3) hc hn h.out
  exact ⟨h1.trans h.same, h2, by have := h.box; have := hk.1; omega⟩
theorem cells_of {w : World} {a : Addr} {v : Value} (h : w.cell? a = some v) : ∃ o : Obj, w.heap[a.block]? = some o ∧ o.isCells = true := by
  unfold World.cell? at h
  cases ho : w.heap[a.block]? with
  | none => simp [ho] at h
  | some o => exact ⟨o, rfl, by cases o <;> simp_all [Obj.isCells]⟩
set_option maxHeartbeats 2000000 in
set_option maxRecDepth 100000 in
theorem all1_stops (n : Nat) (hn : 1 ≤ n) {own : Nat → Prop} {s : Nat} {L : List Sc} (Bn B : Nat) (w : World) (hL : SkL w own s L) (hc : w.cell? ⟨Bn, 0, none⟩ = some (.pointer (some ⟨s, 0, none⟩))) (hbox : w.cell? ⟨B, 0, none⟩ = some (.slice none 0 0)) (hlen : L.length < 1099511627776) :
    SeqStopsK Fence.wide n Tryd.prog 35 #[.pointer (some ⟨Bn, 0, none⟩)] (fun x : Sc => #[scV x]) (KpA B) (fun xs => xs = L) (fun pre => pre <+: L) L.length w := by
  intro l J Jx W hW hJ hJx hY h0'
  have HY := Lib.hid hY
  have HJ := Lib.hid hJ
  have HL := Lib.hid (hL.below hW)
  have hBw : B < w.heap.size := World.block_lt_of_cell? w ⟨B, 0, none⟩ hbox
  have HBW : Hid (B < W.heap.size) := Lib.hid (by have := hW.size; omega)
  have HBX : Hid (W.cell? ⟨B, 0, none⟩ = some (.slice none 0 0)) := Lib.hid ((hW.cell (p := ⟨B, 0, none⟩) hBw).trans hbox)
  have hcW : W.cell? ⟨Bn, 0, none⟩ = some (.pointer (some ⟨s, 0, none⟩)) := (hW.cell (p := ⟨Bn, 0, none⟩) (World.block_lt_of_cell? w ⟨Bn, 0, none⟩ hc)).trans hc
  have HJ0 := Lib.hid h0'
  have HBT := Lib.hid (btw_all hL.srt)
  clear hY hJ hJx hL hc h0' hW hbox hBw
  rw [show (#[Value.func (.yield l) #[] #[]] ++ #[Value.pointer (some ⟨Bn, 0, none⟩)] : Array Value) = #[.func (.yield l) #[] #[], .pointer (some ⟨Bn, 0, none⟩)] from rfl]
  rw [callsIn_wide]
  go_enter Tryd.func35, Tryd.ntmps35
  go_wp2_with fail
  refine wp_region_q [1,1,1,2,0,0] (by kernel_rfl) (by kernel_rfl) ?_
  (refine q_read_n rfl (fun K hK => ?_); go_simp; refine hK _ _ ?_; clear hK K)
  (refine q_read_n rfl (fun K hK => ?_); go_simp; apply Exists.intro; refine ⟨fun nw => ?_, hK _ _ ?_⟩; (exact read_same (inf_neg _)); clear hK K)
  (refine q_read_n rfl (fun K hK => ?_); go_simp; apply Exists.intro; refine ⟨fun nw => ?_, hK _ _ ?_⟩; (exact read_same (inf_pos _)); clear hK K)
  (refine q_write_n rfl (fun K hK => ?_); go_simp; intro nw; refine (btw_list negF infF false false inf_nums.1 inf_nums.2 (HL.out.below (below_drewN (Below.refl _ W) _))).mono ?_; rintro e w3 ⟨⟨v, rfl, hm⟩, hb3⟩; rw [HBT.out] at hm; obtain ⟨A, c, rfl, hm⟩ := mems_at hm; obtain ⟨w3, rfl⟩ : ∃ w5, w3 = World.drewN w5 0 := ⟨w3, rfl⟩; have HM3 := Lib.hid hm; have HB3 : Hid (Below W.heap.size W w3) := Lib.hid ((below_drewN (Below.refl _ W) _).trans (hb3)); clear hb3 hm; refine ⟨_, rfl, _, ⟨_, rfl⟩, hK _ _ ?_⟩; clear hK K)
  (refine q_pure_n rfl (fun K hK => ?_); go_simp; refine hK _ _ ?_; clear hK K)
  (refine q_pure_n rfl (fun K hK => ?_); go_simp; refine hK _ _ ?_; clear hK K)
  refine q_nil ?_
  intro nq
  have HA : Hid (∃ r, 0 < L.length → A = some ⟨r, 0, none⟩ ∧ r ≠ B ∧ ItR B r w3 w3 ∧ (∃ o : Obj, w3.heap[r]? = some o ∧ o.isCells = true) ∧ ∀ j (h : j < L.length), w3.cell? ⟨r, j * 2, none⟩ = some (.string L[j].1) ∧ w3.cell? ⟨r, j * 2 + 1, none⟩ = some (.float .f64 L[j].2)) := Lib.hid (by
    by_cases h0 : 0 < L.length
    · obtain ⟨r, e, h1, h2, h3⟩ := hm h0
      have h1' : W.heap.size ≤ r := h1
      refine ⟨r, fun _ => ⟨e, by have := HBW.out; omega, ⟨rfl, fun v hv => ?_, by have := HBW.out; have := HB3.out.size; omega⟩, cells_of (h3 0 h0).1, h3⟩⟩
      rw [HB3.out.cell (p := ⟨B, 0, none⟩) HBW.out, HBX.out] at hv
      cases hv
      simp [Value.ownBlock]
    · exact ⟨0, fun h => absurd h h0⟩)
  have HJ3 : Hid (J [] (w3.drewN nq)) := Lib.hid (abide HJ.out HJ0.out (below_drewN HB3.out _))
  clear hm HM3 HJ0 HL HBT hcW
  go_wp2_with fail
  refine (wpIn_wide (n := n)).1 ?_
  obtain ⟨r, hr⟩ := HA.out
  have HR := Lib.hid hr
  obtain ⟨N, hN⟩ : ∃ N, N = L.length := ⟨_, rfl⟩
  have HN := Lib.hid hN
  rw [← hN]
  rw [← hN] at hlen
  clear hr HA hN
  gi_loopw [10] (fun p wr => ∃ k : Nat, k ≤ N ∧ p = .int .i64 (k : Int) ∧ Hid (J (L.take k) wr) ∧ Hid (0 < L.length → ItR B r w3 wr) ∧ Hid (W.heap.size ≤ wr.heap.size)) (fun p _ => N - (intOf p).toNat)
  case atStart => exact ⟨0, Nat.zero_le _, rfl, HJ3, Lib.hid (fun h => (HR.out h).2.2.1.below (by obtain ⟨o, ho, _⟩ := (HR.out h).2.2.2.1; exact (Array.getElem?_eq_some_iff.1 ho).1) (below_drewN (Below.refl _ _) _)), Lib.hid (by have := HB3.out.size; simpa using this)⟩
  case round =>
    obtain ⟨k, hk, rfl, HJk, HI, HS⟩ := hrel
    clear HJ3
    by_cases hlt : (k : Int) < (N : Int)
    · have hkl : k < L.length := by have := HN.out; omega
      obtain ⟨rfl, hrB, _, ⟨o, ho, hoc⟩, hcs⟩ := HR.out (by omega)
      have hI := HI.out (by omega)
      obtain ⟨x, hx⟩ : ∃ x, x = L[k] := ⟨_, rfl⟩
      have hck := hcs k hkl
      rw [← hx] at hck
      have hrw : r < wr.heap.size := by have := (Array.getElem?_eq_some_iff.1 (hI.same.trans ho)).1; exact this
      have x1 : wr.cell? ⟨r, k * 2, none⟩ = some (.string x.1) := by rw [← hck.1]; unfold World.cell?; simp only [hI.same]
      have x2 : wr.cell? ⟨r, k * 2 + 1, none⟩ = some (.float .f64 x.2) := by rw [← hck.2]; unfold World.cell?; simp only [hI.same]
      obtain ⟨wr2, hwr2⟩ : ∃ wr2, wr2 = wr.alloc (.cells #[.string x.1, .float .f64 x.2] 31) := ⟨_, rfl⟩
      have hb2 : Below wr.heap.size wr wr2 := by rw [hwr2]; exact (Below.refl _ _).alloc (Nat.le_refl _) _
      have HI2 := Lib.hid (hI.below hrw hb2)
      have HJ2 := Lib.hid (abide HJ.out HJk.out hb2)
      obtain ⟨fn, tmps, assign, body, hy, hR⟩ := HY.out (L.take k) x wr2 HJ2.out (by simp; omega)
      rw [hwr2] at hy hR
      have HTK : Hid (L.take k ++ [x] = L.take (k + 1)) := Lib.hid (by rw [hx]; exact (List.take_succ_eq_append_getElem hkl).symm)
      have HO := Lib.hid ho
      have HOC := Lib.hid hoc
      have HSB := Lib.hid hb2.size
      clear hcs hx hck
      gi_wp2
      refine hR.mono ?_
      rintro e W3 (⟨rfl, hJ3, hk3⟩ | ⟨rfl, hJx3⟩)
      · have HJ4 : Hid (J (L.take (k + 1)) W3) := Lib.hid (by rw [← HTK.out]; exact hJ3)
        have HI4 := Lib.hid (HI2.out.kp HO.out HOC.out hrB (by rw [hwr2]; exact hk3))
        have HS4 : Hid (W.heap.size ≤ W3.heap.size) := Lib.hid (by have h1 := hk3.1; rw [← hwr2] at h1; have := HSB.out; have := HS.out; omega)
        clear hJ3 hk3
        gi_wp2
        go_roundw
        case rel => exact ⟨k + 1, by omega, by go_num, HJ4, Lib.hid (fun _ => HI4.out), HS4⟩
        case measure => simp [intOf]; omega
      · have HJ4 : Hid (Jx (L.take (k + 1)) W3) := Lib.hid (by rw [← HTK.out]; exact hJx3)
        clear hJx3
        gi_wp2
        refine bodyPost_ret (results_none rfl _ _ _) rfl ?_
        exact ⟨⟨_, rfl⟩, .inr ⟨_, List.take_prefix _ _, HJ4.out⟩⟩
    · have HKN : Hid (k = N) := Lib.hid (by omega)
      gi_wp2
      go_end0
      exact ⟨⟨_, rfl⟩, .inl (by have h := HJk.out; rwa [HKN.out, HN.out, List.take_length] at h)⟩
end Go.Proofs.YtmlaackdcnpjmaaDoor.Skp
