/- The walk of DictWalks: it answers true. -/
import Derived.Test.YtnoalklbgncajaaDoorWk07
import Derived.Test.YtnoalklbgncajaaDoorItd07
import Derived.Deep.Cut
import Derived.Deep.CutRange
namespace Go.Proofs.YtnoalklbgncajaaDoor.DictWalks
open Go Go.MapKept Go.RowKit Go.Proofs.YtnoalklbgncajaaDoor.Pin Go.Proofs.YtnoalklbgncajaaDoor.Mps Go.Proofs.YtnoalklbgncajaaDoor.Bok Go.Proofs.YtnoalklbgncajaaDoor.Uw Go.Proofs.YtnoalklbgncajaaDoor.Sip Go.Proofs.YtnoalklbgncajaaDoor.Dct
attribute [local go_sem high] run_store_U cells_U eqGuard_U asIntOf_U
theorem itoa_any (n : Int) (h0 : -9223372036854775808 ≤ n) (h1 : n ≤ 9223372036854775807) (w : World) (htab : Lib.TabIs Tryd.prog w "internal/strconv.uint64pow10" .u64 Lib.pow10Tab) :
    Calls Tryd.prog 8 #[.int .i64 n] w fun e w' => e = .returned (.string ⟨(Lib.itoa n).toArray⟩) ∧ Below w.heap.size w w' := by
  refine (Itd.strconv_Itoa n h0 h1 w htab).mono ?_
  rintro e w' ⟨rfl, k, os, rfl⟩
  refine ⟨rfl, ⟨rfl, rfl, rfl, by simp [Go.Sort.grow], fun b hb => ?_⟩⟩
  exact Go.Sort.heap_grow_old _ _ hb
def stB (n call at' : Nat) : Bool := decide (200 ≤ call) || decide (n ≤ at')
theorem stB_yes {n call at' : Nat} (h : Still n call at') : stB n call at' = true := by
  unfold stB
  rcases h with h | h <;> simp [h]
/-- how many calls are still to come at most -/
def meas (n call at' : Nat) (c : BitVec 64) : Nat := (200 - call) + (if stB n call at' = true then 18446744073709551616 - R c else 18446744073709551616)
theorem meas_le (n call at' : Nat) (c : BitVec 64) : meas n call at' c ≤ (200 - call) + 18446744073709551616 := by
  unfold meas
  split <;> omega
theorem meas_go {n call at' : Nat} {c c' : BitVec 64} (h : ¬ Still n call at') (at2 : Nat) : meas n (call + 1) at2 c' < meas n call at' c := by
  have h1 : ¬ (200 ≤ call) := fun k => h (.inl k)
  have h2 : stB n call at' = false := by
    unfold stB
    have h3 : ¬ (n ≤ at') := fun k => h (.inr k)
    simp [h1, h3]
  have h4 := meas_le n (call + 1) at2 c'
  have h5 : meas n call at' c = (200 - call) + 18446744073709551616 := by unfold meas; rw [h2]; rfl
  omega
theorem meas_still {n call at' : Nat} {c c' : BitVec 64} (h : Still n call at') (hr : R c < R c') : meas n (call + 1) at' c' < meas n call at' c := by
  have h1 := stB_yes h
  have h2 : stB n (call + 1) at' = true := stB_yes (h.imp (fun k => by omega) id)
  have h3 := R_lt c'
  unfold meas
  rw [h1, h2, if_pos rfl, if_pos rfl]
  omega
theorem row_ne {w : World} {B n ob : Nat} {v : Value} {xs : List Value} {T U' : TypeId} {cs : Array Value} (h : w.ownsRow B T 1 v n xs) (ho : w.heap[ob]? = some (.cells cs U' (0, 0))) (hne : U' ≠ T) : v.ownBlock ≠ some ob := fun e => by
  rcases h.2 with ⟨h0, _⟩ | ⟨g, cap, cur, e2, hb, hg, _⟩
  · rw [h0] at e; cases e
  · subst e2
    have : g = ob := by injection e
    subst this
    rw [hg] at ho
    injection ho with ho
    injection ho with _ ho
    exact hne ho.symm
theorem meas_all {n call at' at2 : Nat} {c c' : BitVec 64} (h : Still n call at' → at2 = at') (hr : R c < R c') : meas n (call + 1) at2 c' < meas n call at' c := by
  rcases Classical.em (Still n call at') with hs | hs
  · rw [h hs]
    exact meas_still hs hr
  · exact meas_go hs at2
theorem nodup_len {α : Type} : ∀ (l l' : List α), l.Nodup → (∀ x ∈ l, x ∈ l') → l.length ≤ l'.length
  | [], _, _, _ => Nat.zero_le _
  | x :: l, l', hn, hs => by
    obtain ⟨a, b, rfl⟩ := List.append_of_mem (hs x List.mem_cons_self)
    obtain ⟨h1, h2⟩ := List.nodup_cons.1 hn
    have h3 := nodup_len l (a ++ b) h2 (fun y hy => by
      have h4 := hs y (List.mem_cons_of_mem _ hy)
      rcases List.mem_append.1 h4 with h4 | h4
      · exact List.mem_append_left _ h4
      · rcases List.mem_cons.1 h4 with rfl | h4
        · exact absurd hy h1
        · exact List.mem_append_right _ h4)
    rw [List.length_append] at h3
    rw [List.length_append, List.length_cons, List.length_cons]
    omega
theorem key_small {s : St} (hI : Inv s) {k : ByteArray} (h : KeyIn k s.ents) : k.size ≤ 140737488351232 := by
  obtain ⟨v, hv⟩ := h
  rcases List.mem_append.1 (show (k, v) ∈ flat s.p0 ++ flat1 s.t1 from hv) with h2 | h2
  · obtain ⟨i, b, l, h3, h4⟩ := mem_flat.1 h2
    exact (hI.t0 i b l h3 _ h4).2
  · cases ht : s.t1 with
    | none => rw [ht] at h2; cases h2
    | some x =>
      rw [ht] at h2
      obtain ⟨i, b, l, h3, h4⟩ := mem_flat.1 (show (k, v) ∈ flat x.2 from h2)
      exact (hI.t1 x ht i b l h3 _ h4).2
theorem itoa_few (n : Nat) (hn : n < 256) : (Lib.itoa (n : Int)).length ≤ 4 := by
  have h : (List.range 256).all (fun n => decide ((Lib.itoa (n : Int)).length ≤ 4)) = true := by decide +kernel
  have := List.all_eq_true.1 h n (List.mem_range.2 hn)
  simpa using this
set_option maxHeartbeats 8000000 in
set_option maxRecDepth 100000 in
theorem walk (sd : BitVec 64) (nk ns ne : Int) (A : Option Addr) (ts : List OpT) (cap : Nat) (w : World) (hT : OpsAt w A ts) (hl : ts.length ≤ 140737488351232) (hs : ∀ t ∈ ts, t.2.1.size ≤ 140737488351232 ∧ (-9223372036854775808 ≤ t.2.2.1 ∧ t.2.2.1 ≤ 9223372036854775807) ∧ ∃ z : Int, t.2.2.2 = .int .u64 z)
    (hk : 0 ≤ nk ∧ nk ≤ 255) (hn : 0 ≤ ns ∧ ns ≤ 255) (he : 0 ≤ ne ∧ ne ≤ 255) (htab : Lib.TabIs Tryd.prog w "internal/strconv.uint64pow10" .u64 Lib.pow10Tab) :
    Calls Tryd.prog 3 #[.agg #[U sd, .int .u8 nk, .int .u8 ns, .int .u8 ne, .slice A ts.length cap]] w fun e w' => e = .returned (.bool true) ∧ Below w.heap.size w w' := by
  obtain ⟨i0, hi, hz0, hz1, hz2⟩ := info_parts sinfo
  have HI := Lib.hid hi
  have HZ0 := Lib.hid hz0
  have HZ1 := Lib.hid hz1
  have HZ2 := Lib.hid hz2
  clear hi hz0 hz1 hz2
  have HT := Lib.hid hT
  have HS := Lib.hid hs
  have HTB := Lib.hid htab
  obtain ⟨hk0, hk1⟩ := hk
  obtain ⟨hn0, hn1⟩ := hn
  obtain ⟨he0, he1⟩ := he
  clear hT hs htab
  go_enter Tryd.func3, Tryd.ntmps3
  go_wp2_with fail
  obtain ⟨W, hW⟩ : ∃ W, W = w.alloc (.cells #[U sd, .int .u8 nk, .int .u8 ns, .int .u8 ne, .slice A ts.length cap] 25) := ⟨_, rfl⟩
  have HBX : Hid (∀ wr, Below W.heap.size W wr → wr.cell? ⟨w.heap.size, 0, none⟩ = some (U sd) ∧ wr.cell? ⟨w.heap.size, 1, none⟩ = some (.int .u8 nk) ∧ wr.cell? ⟨w.heap.size, 2, none⟩ = some (.int .u8 ns) ∧ wr.cell? ⟨w.heap.size, 3, none⟩ = some (.int .u8 ne) ∧ wr.cell? ⟨w.heap.size, 4, none⟩ = some (.slice A ts.length cap)) := Lib.hid (fun wr hb => by
    have h1 : W.heap[w.heap.size]? = some (.cells #[U sd, .int .u8 nk, .int .u8 ns, .int .u8 ne, .slice A ts.length cap] 25 (0, 0)) := by rw [hW]; exact heap_alloc_new w _
    have h2 := (hb.block w.heap.size (Array.getElem?_eq_some_iff.1 h1).1).trans h1
    exact ⟨by rw [Lib.cell_of_heap h2]; rfl, by rw [Lib.cell_of_heap h2]; rfl, by rw [Lib.cell_of_heap h2]; rfl, by rw [Lib.cell_of_heap h2]; rfl, by rw [Lib.cell_of_heap h2]; rfl⟩)
  have HFIN : Hid (∀ wr, Below W.heap.size W wr → Below w.heap.size w wr) := Lib.hid (fun wr hb => by
    have h1 : Below w.heap.size w W := by rw [hW]; exact (Below.refl _ _).alloc (Nat.le_refl _) _
    exact h1.trans (hb.mono h1.size))
  have HTW : Hid (OpsAt W A ts) := Lib.hid (HT.out.below (by rw [hW]; exact (Below.refl _ _).alloc (Nat.le_refl _) _))
  have HTBW : Hid (Lib.TabIs Tryd.prog W "internal/strconv.uint64pow10" .u64 Lib.pow10Tab) := Lib.hid (tab_below HTB.out (by rw [hW]; exact (Below.refl _ _).alloc (Nat.le_refl _) _))
  rw [← hW]
  obtain ⟨wb, hwb⟩ : ∃ wb, wb = w.heap.size := ⟨_, rfl⟩
  rw [← hwb] at HBX ⊢
  clear hW hwb HT HTB
  refine (alive_any W).mono ?_
  rintro e w1 ⟨rfl, hb⟩
  have HB1 := Lib.hid hb
  clear hb
  obtain ⟨-, -, -, -, b4⟩ := HBX.out w1 HB1.out
  have HOS := Lib.hid (ops_small (c := cap) ts (HTW.out.below HB1.out) (by omega))
  go_wp2_with fail
  refine HOS.out.mono ?_
  rintro e w' ⟨hcase, rfl⟩
  clear HOS b4
  rcases hcase with rfl | ⟨rfl, h5⟩
  · go_wp2_with fail
    refine (alive_any w1).mono ?_
    rintro e w2 ⟨rfl, hb⟩
    have HB2 : Hid (Below W.heap.size W w2) := Lib.hid (HB1.out.trans (hb.mono HB1.out.size))
    clear hb
    go_wp2_with fail
    go_ret
    exact ⟨rfl, HFIN.out _ HB2.out⟩
  have HLEN : Hid (ts.length ≤ 5000) := Lib.hid h5
  obtain ⟨b0, -, -, -, -⟩ := HBX.out w1 HB1.out
  clear h5
  go_wp2_with fail
  refine (new_dk sd w1).mono ?_
  rintro e w2 ⟨d, s0, rfl, hD, _, he, hn, _, hb⟩
  have HQ0 : Hid (Dk W.heap.size w2 d s0 ∧ Below W.heap.size W w2 ∧ s0.ents.length ≤ 0) := Lib.hid ⟨⟨hD.at', hD.inv, fun b hb => Nat.le_trans HB1.out.size (hD.own b hb), Nat.le_trans HB1.out.size hb.size⟩, HB1.out.trans (hb.mono HB1.out.size), by rw [he]; exact Nat.le_refl _⟩
  clear hD he hn hb b0
  go_wp2_with fail
  go_loopw [4] (fun i wr => ∃ (j : Nat) (s : St), j ≤ 255 ∧ i = .int .i64 (j : Int) ∧ Hid (Dk W.heap.size wr d s ∧ Below W.heap.size W wr ∧ s.ents.length ≤ j)) (fun i _ => 255 - (intOf i).toNat)
  case atStart => exact ⟨0, s0, Nat.zero_le _, rfl, HQ0⟩
  case round =>
    obtain ⟨j, s1, hj, rfl, HQ⟩ := hrel
    clear HQ0
    obtain ⟨-, b1, b2, -, -⟩ := HBX.out wr HQ.out.2.1
    by_cases hlt : (j : Int) < nk
    · have HLT : Hid (j + 1 ≤ 255) := Lib.hid (by omega)
      have HIT := Lib.hid (itoa_any (j : Int) (by omega) (by omega) wr (tab_below HTBW.out HQ.out.2.1))
      have hfew := itoa_few j (by omega)
      have hl2 : ¬ (9223372036854775807 < 1 + (Lib.itoa (j : Int)).length) := by omega
      have HKS : Hid (ByteArray.size ((⟨#[107]⟩ : ByteArray) ++ ⟨(Lib.itoa (j : Int)).toArray⟩) ≤ 140737488351232) := Lib.hid (by
        rw [ByteArray.size_append]
        show 1 + (Lib.itoa (j : Int)).toArray.size ≤ _
        rw [List.size_toArray]
        omega)
      clear hfew
      go_wp2_with fail
      refine HIT.out.mono ?_
      rintro e w3 ⟨rfl, hb⟩
      have HQ3 : Hid (Dk W.heap.size w3 d s1 ∧ Below W.heap.size W w3) := Lib.hid ⟨HQ.out.1.below hb, HQ.out.2.1.trans (hb.mono HQ.out.1.bnd)⟩
      clear hb
      go_wp2_with fail
      refine (set_dk HQ3.out.1 _ (j : Int) HKS.out (by rw [HQ3.out.1.inv.cnt]; have := HQ.out.2.2; omega)).mono ?_
      rintro e w4 ⟨s2, hD2, _, hr, _, hb, _⟩
      obtain ⟨h1, b, rfl⟩ := SetR.len' hr
      have HQ4 : Hid (Dk W.heap.size w4 d s2 ∧ Below W.heap.size W w4 ∧ s2.ents.length ≤ j + 1) := Lib.hid ⟨hD2, HQ3.out.2.trans hb, by have := HQ.out.2.2; omega⟩
      clear hD2 hr hb h1
      go_wp2_with fail
      exact ⟨⟨j + 1, s2, HLT.out, by go_num, HQ4⟩, by have := HLT.out; simp only [intOf]; omega⟩
    · have HJ := Lib.hid hj
      clear hj
      go_wp2_with fail
      refine (step_dk HQ.out.1 ns (by omega)).mono ?_
      rintro e w3 ⟨rfl, s2, hD2, _, hp2, hn2, _, hb2, _⟩
      have HQ3 : Hid (Dk W.heap.size w3 d s2 ∧ Below W.heap.size W w3 ∧ s2.ents.length ≤ 255) := Lib.hid ⟨hD2, HQ.out.2.1.trans hb2, by rw [hp2.length_eq]; have := HQ.out.2.2; have := HJ.out; omega⟩
      clear hD2 hp2 hn2 hb2 b1 b2 HQ
      have HKY := Lib.hid (keys_any HQ3.out.1.at' HQ3.out.1.inv (by rw [HQ3.out.1.inv.cnt]; have := HQ3.out.2.2; omega))
      go_wp2_with fail
      refine HKY.out.mono ?_
      rintro e w4 ⟨kv, AL, rfl, hpa, _, hrow, hb⟩
      have hrw := (Rws.add (rs := []) ⟨HQ3.out.1, HQ3.out.2.1, fun r hr => (by cases hr), fun r hr => (by cases hr), List.Pairwise.nil⟩ hb hrow).nil
      have HR0 := Lib.hid hrw
      have HA0 : Hid (AL.length ≤ 255) := Lib.hid (by rw [hpa.length_eq, List.length_map]; exact HQ3.out.2.2)
      have HW0 : Hid (Wlk s2 ts.length 0 0 0 0#64 AL [] AL) := Lib.hid (by
        have hmem : ∀ k, k ∈ AL ↔ KeyIn k s2.ents := fun k => by
          rw [hpa.mem_iff]
          constructor
          · intro h
            obtain ⟨y, hy, rfl⟩ := List.mem_map.1 h
            exact ⟨y.2, hy⟩
          · rintro ⟨v, hv⟩
            exact List.mem_map.2 ⟨_, hv, rfl⟩
        have hlen : AL.length ≤ 255 := by rw [hpa.length_eq, List.length_map]; exact HQ3.out.2.2
        refine ⟨fun k hk => ⟨(hmem k).1 hk, fun h => by rw [R_zero.2 rfl] at h; omega⟩, List.nodup_nil, fun k hk => (by cases hk), fun k hk => (hmem k).2 hk, by omega, Nat.zero_le _, ?_, .inl rfl⟩
        rw [HQ3.out.1.inv.cnt]
        have := HQ3.out.2.2
        omega)
      clear hpa hrow hb hrw HKY HQ3
      go_wp2_with fail
      rw [show (Value.int .u64 0 : Value) = U 0#64 from rfl]
      go_loopg [5, 6, 7, 8, 9, 10] (meas ts.length 0 0 0#64) (fun g av tv cu atv lf cl wr => ∃ (s : St) (AL TL E : List ByteArray) (c : BitVec 64) (at' left call : Nat), cu = U c ∧ atv = .int .i64 (at' : Int) ∧ lf = .int .i64 (left : Int) ∧ cl = .int .i64 (call : Int) ∧ Hid (g = meas ts.length call at' c) ∧ Hid (Rws W wr d s [(tv, TL), (av, AL)]) ∧ Hid (Wlk s ts.length call at' left c AL TL E) ∧ Hid (call ≤ 200 + left ∧ left < 1099511627776) ∧ Hid (AL.length ≤ 255))
      case atStart => exact ⟨s2, AL, [], AL, 0#64, 0, 0, 0, rfl, rfl, rfl, rfl, Lib.hid rfl, HR0, HW0, Lib.hid ⟨by omega, by omega⟩, HA0⟩
      case round =>
        obtain ⟨s3, AL3, TL, E, c, at', left, call, rfl, rfl, rfl, rfl, HG, HR, HW, HCL, HAL3⟩ := hrel
        clear HR0 HW0 HA0
        iterate 11 (first | go_values | go_skip | go_guarded | go_step)
        go_cut [5, 8, 11] from 54 to 211 (fun av atv _ wc => ∃ (s : St) (AL E : List ByteArray) (at2 : Nat), atv = .int .i64 (at2 : Int) ∧ Hid (Rws W wc d s [(u6, TL), (av, AL)]) ∧ Hid (Wlk s ts.length call at2 left c AL TL E) ∧ Hid (Still ts.length call at' → at2 = at') ∧ Hid (AL.length ≤ 255))
        case first => as_aux_lemma =>
          have hq0 : 0 ≤ ne % 8 := by omega
          have hq1 : ne % 8 < 8 := by omega
          go_wp2_with fail
          go_loopw [5, 8, 11] (fun av atv iv wr => ∃ (s : St) (AL E : List ByteArray) (at2 i : Nat), i ≤ 8 ∧ atv = .int .i64 (at2 : Int) ∧ iv = .int .i64 (i : Int) ∧ Hid (Rws W wr d s [(u6, TL), (av, AL)]) ∧ Hid (Wlk s ts.length call at2 left c AL TL E) ∧ Hid (Still ts.length call at' → at2 = at') ∧ Hid (AL.length ≤ 255)) (fun _ _ iv _ => 8 - (intOf iv).toNat)
          case atStart => exact ⟨s3, AL3, E, at', 0, Nat.zero_le _, rfl, rfl, HR, HW, Lib.hid (fun _ => rfl), HAL3⟩
          case round => as_aux_lemma =>
            obtain ⟨s4, AL4, E4, at2, i, hi, rfl, rfl, HR4, HW4, HST, HA8⟩ := hrel
            clear HR HW
            obtain ⟨-, -, -, b3, b4⟩ := HBX.out wr HR4.out.bel
            by_cases h1 : (i : Int) < ne % 8
            · by_cases h2 : (0 : Int) < (call : Int)
              · by_cases h3 : (call : Int) < 200
                · by_cases h4 : (at2 : Int) < (ts.length : Int)
                  · have hat : at2 < ts.length := by omega
                    obtain ⟨g, o, rfl, _, hc0, hc1, hc2, hc3⟩ := HTW.out.below HR4.out.bel at2 hat
                    obtain ⟨⟨kd, key, nn, cv⟩, ht⟩ : ∃ t : OpT, t = ts[at2] := ⟨_, rfl⟩
                    rw [← ht] at hc0 hc1 hc2 hc3
                    obtain ⟨hk, hnb, z, hz⟩ : key.size ≤ 140737488351232 ∧ (-9223372036854775808 ≤ nn ∧ nn ≤ 9223372036854775807) ∧ ∃ z : Int, cv = .int .u64 z := by
                      have := HS.out ts[at2] (List.getElem_mem hat)
                      rw [← ht] at this
                      exact this
                    subst hz
                    have HK := Lib.hid hk
                    have HNB := Lib.hid hnb
                    have HAT := Lib.hid hat
                    have HNS : Hid (¬ Still ts.length call at2) := Lib.hid (fun h => by rcases h with h | h <;> omega)
                    have HZ : Hid (left = 0) := Lib.hid (HW4.out.next HNS.out)
                    have HI8 : Hid (i + 1 ≤ 8) := Lib.hid (by omega)
                    have HSN : Hid (s4.n ≤ 274877906944) := Lib.hid (by have h5 := HW4.out.cnt; have h6 := HW4.out.atn; have h7 := HLEN.out; omega)
                    clear hk hnb ht hat
                    by_cases hk1 : kd = 1
                    · subst hk1
                      go_wp2_with fail
                      obtain ⟨W5, hW5⟩ : ∃ W5, W5 = wr.alloc (.cells #[.int .u8 (1 : Int), .string key, .int .i64 nn, .int .u64 z] 36) := ⟨_, rfl⟩
                      have HR5 : Hid (Rws W W5 d s4 [(u6, TL), (u5, AL4)]) := Lib.hid (by rw [hW5]; exact HR4.out.below ((Below.refl _ _).alloc (Nat.le_refl _) _))
                      have HOB : Hid (W5.heap[wr.heap.size]? = some (.cells #[.int .u8 (1 : Int), .string key, .int .i64 nn, .int .u64 z] 36 (0, 0))) := Lib.hid (by rw [hW5]; exact heap_alloc_new wr _)
                      have HOD : Hid (wr.heap.size ∉ s4.own d) := Lib.hid (fun hm => by have := HR4.out.dk.at'.own_lt _ hm; omega)
                      rw [← hW5]
                      obtain ⟨ob, hob⟩ : ∃ ob, ob = wr.heap.size := ⟨_, rfl⟩
                      rw [← hob] at HOB HOD ⊢
                      clear hW5 hob HR4
                      refine (set_dk HR5.out.dk key nn HK.out HSN.out).mono ?_
                      rintro e w6 ⟨s5, _, hsd, hr, _, _, ht⟩
                      have HR6 := Lib.hid (HR5.out.dict ht)
                      have HW6 := Lib.hid (HW4.out.set HZ.out HAT.out hsd hr HR5.out.dk.inv.cnt HR6.out.dk.inv.cnt)
                      obtain ⟨_, b, rfl⟩ := SetR.len' hr
                      clear hr ht hsd HR5
                      go_wp2_with fail
                      exact ⟨⟨s5, AL4, key :: E4, at2 + 1, i + 1, HI8.out, by go_num, by go_num, HR6, HW6, Lib.hid (fun h => absurd (by rw [← HST.out h] at h; exact h) HNS.out), HA8⟩, by have := HI8.out; simp only [intOf]; omega⟩
                    · have hb1 : ((kd : Int) == 1) = false := by rw [beq_eq_false_iff_ne]; omega
                      by_cases hk2 : kd = 2
                      · subst hk2
                        go_wp2_with fail
                        obtain ⟨W5, hW5⟩ : ∃ W5, W5 = wr.alloc (.cells #[.int .u8 (2 : Int), .string key, .int .i64 nn, .int .u64 z] 36) := ⟨_, rfl⟩
                        have HR5 : Hid (Rws W W5 d s4 [(u6, TL), (u5, AL4)]) := Lib.hid (by rw [hW5]; exact HR4.out.below ((Below.refl _ _).alloc (Nat.le_refl _) _))
                        have HOB : Hid (W5.heap[wr.heap.size]? = some (.cells #[.int .u8 (2 : Int), .string key, .int .i64 nn, .int .u64 z] 36 (0, 0))) := Lib.hid (by rw [hW5]; exact heap_alloc_new wr _)
                        have HOD : Hid (wr.heap.size ∉ s4.own d) := Lib.hid (fun hm => by have := HR4.out.dk.at'.own_lt _ hm; omega)
                        rw [← hW5]
                        obtain ⟨ob, hob⟩ : ∃ ob, ob = wr.heap.size := ⟨_, rfl⟩
                        rw [← hob] at HOB HOD ⊢
                        clear hW5 hob HR4
                        refine (delete_dk HR5.out.dk key HK.out HSN.out).mono ?_
                        rintro e w6 ⟨s5, _, hsd, hr, _, ht⟩
                        have hr6 := HR5.out.dict ht
                        have HDL : Hid (∀ AL' : List ByteArray, (∀ x ∈ AL', x ∈ AL4 ∧ x ≠ key) → Wlk s5 ts.length call (at2 + 1) left c AL' TL E4) := Lib.hid (fun AL' hA => HW4.out.del HZ.out HAT.out hsd hr HR5.out.dk.inv.nd HR5.out.dk.inv.cnt hr6.dk.inv.cnt hA)
                        have hob6 : w6.heap[ob]? = some (.cells #[.int .u8 (2 : Int), .string key, .int .i64 nn, .int .u64 z] 36 (0, 0)) := (ht.frm.block ob (Array.getElem?_eq_some_iff.1 HOB.out).1 HOD.out).trans HOB.out
                        have co1 : w6.cell? ⟨ob, 1, none⟩ = some (.string key) := by rw [Lib.cell_of_heap hob6]; rfl
                        have HOB6 := Lib.hid hob6
                        have HNE : Hid (e = .returned (.bool false) → ∀ x ∈ AL4, x ≠ key) := Lib.hid (fun he x hx hxk => by
                          obtain ⟨v, hv⟩ := (HW4.out.al x hx).1
                          rcases hr with ⟨h0, _⟩ | ⟨_, h2, _⟩
                          · rw [h0] at he; cases he
                          · exact h2 (x, v) hv hxk)
                        obtain ⟨hev, _⟩ := DelR.key hr HR5.out.dk.inv.nd
                        obtain ⟨A5, c5, h5⟩ := hr6.slice (r := (u5, AL4)) (by simp)
                        have h5 : u5 = .slice A5 AL4.length c5 := h5
                        subst h5
                        have HHS := Lib.hid (has_any (w := w6) (A := A5) (c := c5) AL4 key (by have := HA8.out; omega) (row_txt (hr6.row (.slice A5 AL4.length c5, AL4) (by simp))))
                        have HR6 := Lib.hid hr6
                        obtain ⟨n5, hn5⟩ : ∃ n5, n5 = AL4.length := ⟨_, rfl⟩
                        have HN5 := Lib.hid hn5
                        rw [← hn5] at HR6 HHS ⊢
                        clear hr ht hsd HR5 hob6 hr6 hn5
                        rcases hev with rfl | rfl
                        · go_wp2_with fail
                          refine HHS.out.mono ?_
                          rintro e w7 ⟨⟨b, rfl, hbb⟩, rfl⟩
                          cases b with
                          | true =>
                            have HN52 : Hid (n5 ≤ 5300) := Lib.hid (by rw [HN5.out]; have := HA8.out; omega)
                            have hn52 := HN52.out
                            clear hbb HHS co1
                            go_wp2_with fail
                            go_loopw [13, 14] (fun rv iv wq => ∃ (q : Nat) (RL : List ByteArray), q ≤ n5 ∧ iv = .int .i64 (q : Int) ∧ Hid (Rws W wq d s5 [(rv, RL), (u6, TL), (.slice A5 n5 c5, AL4)]) ∧ Hid (wq.heap[ob]? = some (.cells #[.int .u8 (2 : Int), .string key, .int .i64 nn, .int .u64 z] 36 (0, 0))) ∧ Hid (RL.length ≤ q ∧ ∀ y, y ∈ RL ↔ y ∈ AL4.take q ∧ y ≠ key)) (fun _ iv _ => n5 - (intOf iv).toNat)
                            case atStart => exact ⟨0, [], Nat.zero_le _, rfl, Lib.hid HR6.out.nil, HOB6, Lib.hid ⟨Nat.le_refl _, fun y => by simp⟩⟩
                            case round =>
                              obtain ⟨q, RL, hq, rfl, HR7, HOB7, HRL⟩ := hrel
                              clear HR6 HOB6
                              have co1 : wr.cell? ⟨ob, 1, none⟩ = some (.string key) := by rw [Lib.cell_of_heap HOB7.out]; rfl
                              by_cases hqn : q < n5
                              · have hql : q < AL4.length := by rw [← HN5.out]; exact hqn
                                have hrowA : wr.ownsRow W.heap.size 9 1 (.slice A5 n5 c5) AL4.length (AL4.map Value.string) := HR7.out.row (.slice A5 n5 c5, AL4) (by simp)
                                obtain ⟨g5, o5, hA5, hc5⟩ := row_txt hrowA q hql
                                obtain ⟨y, hy⟩ : ∃ y, y = AL4[q] := ⟨_, rfl⟩
                                rw [← hy] at hc5
                                have hqI : (q : Int) < (n5 : Int) := by omega
                                have HQN := Lib.hid hqn
                                have htk : AL4.take (q + 1) = AL4.take q ++ [y] := by rw [List.take_succ_eq_append_getElem hql, hy]
                                have HTK := Lib.hid htk
                                have HFZ := Lib.hid HR7.out.dk.bnd
                                clear hy hqn htk hrowA
                                by_cases hyk : y = key
                                · have heq : (y.toList == key.toList) = true := (txt_eq y key).2 hyk
                                  have HRL2 : Hid (RL.length ≤ q + 1 ∧ ∀ x, x ∈ RL ↔ x ∈ AL4.take (q + 1) ∧ x ≠ key) := Lib.hid ⟨by have := HRL.out.1; omega, fun x => by
                                    rw [HTK.out, HRL.out.2 x, List.mem_append]
                                    constructor
                                    · rintro ⟨h1, h2⟩; exact ⟨.inl h1, h2⟩
                                    · rintro ⟨h1 | h1, h2⟩
                                      · exact ⟨h1, h2⟩
                                      · exact absurd ((by simpa using h1 : x = y).trans hyk) h2⟩
                                  clear hyk
                                  subst hA5
                                  go_wp2_with fail
                                  refine wp_region_q [0,0,0,1,0,1,0] (by kernel_rfl) (by kernel_rfl) ?_
                                  (refine q_pure_n rfl (fun K hK => ?_); go_simp; refine hK _ _ ?_; clear hK K)
                                  (refine q_pure_n rfl (fun K hK => ?_); go_simp; refine hK _ _ ?_; clear hK K)
                                  (refine q_pure_n rfl (fun K hK => ?_); go_simp; refine hK _ _ ?_; clear hK K)
                                  (refine q_read_n rfl (fun K hK => ?_); go_simp; refine hK _ _ ?_; clear hK K)
                                  (refine q_pure_n rfl (fun K hK => ?_); go_simp; refine hK _ _ ?_; clear hK K)
                                  (refine q_read_n rfl (fun K hK => ?_); go_simp; refine hK _ _ ?_; clear hK K)
                                  (refine q_pure_n rfl (fun K hK => ?_); go_simp; refine hK _ _ ?_; clear hK K)
                                  refine q_nil ?_
                                  intro nq
                                  go_wp2_with fail
                                  exact ⟨⟨q + 1, RL, HQN.out, by go_num, Lib.hid (HR7.out.below (below_drewN (Below.refl _ _) _)), HOB7, HRL2⟩, by have := HQN.out; simp only [intOf]; omega⟩
                                · have heq : (y.toList == key.toList) = false := txt_ne hyk
                                  have HRL2 : Hid ((RL ++ [y]).length ≤ q + 1 ∧ ∀ x, x ∈ RL ++ [y] ↔ x ∈ AL4.take (q + 1) ∧ x ≠ key) := Lib.hid ⟨by have := HRL.out.1; rw [List.length_append]; simp; omega, fun x => by
                                    rw [HTK.out, List.mem_append, HRL.out.2 x, List.mem_append]
                                    constructor
                                    · rintro (⟨h1, h2⟩ | h1)
                                      · exact ⟨.inl h1, h2⟩
                                      · have h3 : x = y := by simpa using h1
                                        exact ⟨.inr h1, by rw [h3]; exact hyk⟩
                                    · rintro ⟨h1 | h1, h2⟩
                                      · exact .inl ⟨h1, h2⟩
                                      · exact .inr h1⟩
                                  clear hyk
                                  obtain ⟨A7, c7, h7⟩ := HR7.out.slice (r := (u13, RL)) (by simp)
                                  have h7 : u13 = .slice A7 RL.length c7 := h7
                                  subst h7
                                  obtain ⟨m, hm⟩ : ∃ m, m = RL.length := ⟨_, rfl⟩
                                  have HM := Lib.hid hm
                                  rw [← hm] at HR7
                                  have hm5 : m ≤ 5300 := by have h1 := HRL.out.1; have h2 := HN52.out; rw [hm]; omega
                                  rw [← hm]
                                  clear hm
                                  subst hA5
                                  go_wp2_with fail
                                  refine wp_region_q [0,0,0,1,0,1,0] (by kernel_rfl) (by kernel_rfl) ?_
                                  (refine q_pure_n rfl (fun K hK => ?_); go_simp; refine hK _ _ ?_; clear hK K)
                                  (refine q_pure_n rfl (fun K hK => ?_); go_simp; refine hK _ _ ?_; clear hK K)
                                  (refine q_pure_n rfl (fun K hK => ?_); go_simp; refine hK _ _ ?_; clear hK K)
                                  (refine q_read_n rfl (fun K hK => ?_); go_simp; refine hK _ _ ?_; clear hK K)
                                  (refine q_pure_n rfl (fun K hK => ?_); go_simp; refine hK _ _ ?_; clear hK K)
                                  (refine q_read_n rfl (fun K hK => ?_); go_simp; refine hK _ _ ?_; clear hK K)
                                  (refine q_pure_n rfl (fun K hK => ?_); go_simp; refine hK _ _ ?_; clear hK K)
                                  refine q_nil ?_
                                  intro nq
                                  have hrow7 : wr.ownsRow W.heap.size 9 1 (.slice A7 m c7) m (RL.map Value.string) := by have := HR7.out.row (.slice A7 m c7, RL) (by simp); rw [← HM.out] at this; exact this
                                  obtain ⟨W8, hW8⟩ : ∃ W8, W8 = wr.drewN nq := ⟨_, rfl⟩
                                  have HR8 : Hid (Rws W W8 d s5 [(.slice A7 m c7, RL), (u6, TL), (.slice (some ⟨g5, o5, none⟩) n5 c5, AL4)]) := Lib.hid (by rw [hW8]; exact HR7.out.below (below_drewN (Below.refl _ _) _))
                                  have HOB8 : Hid (W8.heap[ob]? = some (.cells #[.int .u8 (2 : Int), .string key, .int .i64 nn, .int .u64 z] 36 (0, 0))) := Lib.hid (by rw [hW8]; exact HOB7.out)
                                  have hc58 : W8.cell? ⟨g5, o5 + q, none⟩ = some (.string y) := by rw [hW8]; exact hc5
                                  have hal : (W8.alloc (.cells #[.string y] 9)).ownsRow W.heap.size 9 1 (.slice A7 m c7) m (RL.map Value.string) := by
                                    have := (HR8.out.row (.slice A7 m c7, RL) (by simp)).alloc (.cells #[.string y] 9)
                                    rw [← HM.out] at this
                                    exact this
                                  have HAL := Lib.hid hal
                                  have HSZ := Lib.hid HR8.out.dk.bnd
                                  rw [← hW8]
                                  clear hW8 hc5 hrow7 hal HR7 HOB7 co1
                                  go_wp2_with (at_builtin; refine wpList_append2 _ rfl _ _ 33 rfl W.heap.size 9 i0 (.string ⟨#[]⟩) 1 16 Tryd.underlying33 HI.out HZ0.out HZ1.out HZ2.out rfl (by decide) _ _ _ rfl HAL.out ⟨W8.heap.size, 0, none⟩ 1 1 [.string y] rfl rfl Nat.one_pos ?p1 ?p2 ?p3 ?p4 ?p5 ?_)
                                  try (case p1 => exact new_cells W8 [.string y] _)
                                  case p2 => simp [Value.oneCell']
                                  case p3 => unfold maxLen; omega
                                  case p4 => omega
                                  case p5 => have := HSZ.out; simp; omega
                                  intro v9 w9 hown hgr
                                  have hgr2 : (v9.ownBlock = (Value.slice A7 m c7).ownBlock ∧ (W8.alloc (.cells #[.string y] 9)).grownBy w9 (Value.slice A7 m c7).ownBlock) ∨ (∃ r, v9.ownBlock = some r ∧ (W8.alloc (.cells #[.string y] 9)).heap.size ≤ r) ∧ (W8.alloc (.cells #[.string y] 9)).grownBy w9 none := by simpa using hgr
                                  have HR9 := Lib.hid (HR8.out.push (o := .cells #[.string y] 9) (by rw [← HM.out]; exact hown) hgr2)
                                  have HOB9 : Hid (w9.heap[ob]? = some (.cells #[.int .u8 (2 : Int), .string key, .int .i64 nn, .int .u64 z] 36 (0, 0))) := Lib.hid (((push_frm hgr2).1.block ob (Array.getElem?_eq_some_iff.1 HOB8.out).1 (row_ne (by have := HR8.out.row (.slice A7 m c7, RL) (by simp); exact this) HOB8.out (by decide))).trans HOB8.out)
                                  clear hown hgr hgr2 HAL HSZ HR8 HOB8
                                  go_wp2_with fail
                                  exact ⟨⟨q + 1, RL ++ [y], HQN.out, by go_num, HR9, HOB9, HRL2⟩, by have := HQN.out; simp only [intOf]; omega⟩
                              · have hqI : ¬ ((q : Int) < (n5 : Int)) := by omega
                                have hqe : q = AL4.length := by rw [← HN5.out]; omega
                                have HR9 : Hid (Rws W wr d s5 [(u6, TL), (u13, RL)]) := Lib.hid ((HR7.out.perm (rs' := [(.slice A5 n5 c5, AL4), (u6, TL), (u13, RL)]) ((List.Perm.swap _ _ _).trans (((List.Perm.swap _ _ _).cons _).trans (List.Perm.swap _ _ _)))).tail)
                                have HW9 : Hid (Wlk s5 ts.length call (at2 + 1) left c RL TL E4) := Lib.hid (HDL.out RL (fun x hx => by
                                  have h1 := (HRL.out.2 x).1 hx
                                  rw [hqe, List.take_length] at h1
                                  exact h1))
                                have HA9 : Hid (RL.length ≤ 255) := Lib.hid (by have h1 := HRL.out.1; have h2 := HA8.out; omega)
                                clear hqn hqe co1
                                go_wp2_with fail
                                exact ⟨⟨s5, RL, E4, at2 + 1, i + 1, HI8.out, by go_num, by go_num, HR9, HW9, Lib.hid (fun h => absurd (by rw [← HST.out h] at h; exact h) HNS.out), HA9⟩, by have := HI8.out; simp only [intOf]; omega⟩
                          | false =>
                            have HW6 := Lib.hid (HDL.out AL4 (fun x hx => ⟨hx, fun e => by
                              have := hbb.2 (e ▸ hx)
                              cases this⟩))
                            clear hbb HHS co1
                            go_wp2_with fail
                            exact ⟨⟨s5, AL4, E4, at2 + 1, i + 1, HI8.out, by go_num, by go_num, HR6, HW6, Lib.hid (fun h => absurd (by rw [← HST.out h] at h; exact h) HNS.out), HA8⟩, by have := HI8.out; simp only [intOf]; omega⟩
                        · have HW6 := Lib.hid (HDL.out AL4 (fun x hx => ⟨hx, HNE.out rfl x hx⟩))
                          clear HHS co1
                          go_wp2_with fail
                          exact ⟨⟨s5, AL4, E4, at2 + 1, i + 1, HI8.out, by go_num, by go_num, HR6, HW6, Lib.hid (fun h => absurd (by rw [← HST.out h] at h; exact h) HNS.out), HA8⟩, by have := HI8.out; simp only [intOf]; omega⟩
                      · have hb2 : ((kd : Int) == 2) = false := by rw [beq_eq_false_iff_ne]; omega
                        by_cases hk3 : kd = 3
                        · subst hk3
                          go_wp2_with fail
                          obtain ⟨W5, hW5⟩ : ∃ W5, W5 = wr.alloc (.cells #[.int .u8 (3 : Int), .string key, .int .i64 nn, .int .u64 z] 36) := ⟨_, rfl⟩
                          have HR5 : Hid (Rws W W5 d s4 [(u6, TL), (u5, AL4)]) := Lib.hid (by rw [hW5]; exact HR4.out.below ((Below.refl _ _).alloc (Nat.le_refl _) _))
                          have HOB : Hid (W5.heap[wr.heap.size]? = some (.cells #[.int .u8 (3 : Int), .string key, .int .i64 nn, .int .u64 z] 36 (0, 0))) := Lib.hid (by rw [hW5]; exact heap_alloc_new wr _)
                          have HOD : Hid (wr.heap.size ∉ s4.own d) := Lib.hid (fun hm => by have := HR4.out.dk.at'.own_lt _ hm; omega)
                          rw [← hW5]
                          obtain ⟨ob, hob⟩ : ∃ ob, ob = wr.heap.size := ⟨_, rfl⟩
                          rw [← hob] at HOB HOD ⊢
                          clear hW5 hob HR4
                          refine (step_dk HR5.out.dk nn HNB.out).mono ?_
                          rintro e w6 ⟨rfl, s5, _, hsd, hp, hnn, _, _, ht⟩
                          have HR6 := Lib.hid (HR5.out.dict ht)
                          have HW6 := Lib.hid (HW4.out.stp HZ.out HAT.out hsd hp hnn)
                          clear hp ht hsd hnn HR5
                          go_wp2_with fail
                          exact ⟨⟨s5, AL4, E4, at2 + 1, i + 1, HI8.out, by go_num, by go_num, HR6, HW6, Lib.hid (fun h => absurd (by rw [← HST.out h] at h; exact h) HNS.out), HA8⟩, by have := HI8.out; simp only [intOf]; omega⟩
                        · have hb3 : ((kd : Int) == 3) = false := by rw [beq_eq_false_iff_ne]; omega
                          have HR6 : Hid (Rws W (wr.alloc (.cells #[.int .u8 (kd : Int), .string key, .int .i64 nn, .int .u64 z] 36)) d s4 [(u6, TL), (u5, AL4)]) := Lib.hid (HR4.out.below ((Below.refl _ _).alloc (Nat.le_refl _) _))
                          have HW6 := Lib.hid (HW4.out.stp HZ.out HAT.out rfl (List.Perm.refl _) rfl)
                          clear HR4
                          go_wp2_with fail
                          exact ⟨⟨s4, AL4, E4, at2 + 1, i + 1, HI8.out, by go_num, by go_num, HR6, HW6, Lib.hid (fun h => absurd (by rw [← HST.out h] at h; exact h) HNS.out), HA8⟩, by have := HI8.out; simp only [intOf]; omega⟩
                  · go_wp2_with fail
                    go_meet
                    case rel => exact ⟨s4, AL4, E4, at2, rfl, HR4, HW4, HST, HA8⟩
                · go_wp2_with fail
                  go_meet
                  case rel => exact ⟨s4, AL4, E4, at2, rfl, HR4, HW4, HST, HA8⟩
              · go_wp2_with fail
                go_meet
                case rel => exact ⟨s4, AL4, E4, at2, rfl, HR4, HW4, HST, HA8⟩
            · go_wp2_with fail
              go_meet
              case rel => exact ⟨s4, AL4, E4, at2, rfl, HR4, HW4, HST, HA8⟩
        case rest => as_aux_lemma =>
          obtain ⟨s4, AL4, E4, at2, rfl, HR4, HW4, HST, HA8⟩ := hcut
          have HSC := Lib.hid (scan_any HR4.out.dk.at' HR4.out.dk.inv c (by have h5 := HW4.out.cnt; have h6 := HW4.out.atn; have h7 := HLEN.out; omega))
          go_wp2_with fail
          refine HSC.out.mono ?_
          rintro e w5 ⟨c', lv, Ls, rfl, hsc, hrow, hb⟩
          have hr5 := HR4.out.add hb hrow
          have HSN := Lib.hid hsc
          obtain ⟨A5, c5, h5⟩ := hr5.slice (r := (lv, Ls)) (by simp)
          have h5 : lv = .slice A5 Ls.length c5 := h5
          subst h5
          obtain ⟨n5, hn5⟩ : ∃ n5, n5 = Ls.length := ⟨_, rfl⟩
          have HN5 := Lib.hid hn5
          have HKI : Hid (∀ k ∈ Ls, KeyIn k s4.ents) := Lib.hid (fun k hk => by
            obtain ⟨a, _, _, _, _, _, _, h7, _⟩ := hsc.shape
            exact (h7 k hk).1)
          have HEB : Hid (E4.length ≤ 5300) := Lib.hid (by have h5 := HW4.out.eLen; have h6 := HW4.out.atn; have h7 := HLEN.out; omega)
          have hn53 : n5 ≤ 5300 := by
            have h1 := nodup_len Ls E4 hsc.nd (fun k hk => HW4.out.sE k (HKI.out k hk))
            have h2 := HEB.out
            omega
          rw [← hn5] at hr5 ⊢
          have HR5 := Lib.hid (hr5.perm (rs' := [(u6, TL), (.slice A5 n5 c5, Ls), (u5, AL4)]) (List.Perm.swap _ _ _))
          have HRI := Lib.hid (rises hsc.srt hsc.nd)
          clear hsc hrow hb hr5 HSC HR4 hn5
          go_wp2_with fail
          go_loopw [6, 17] (fun tv iv wq => ∃ (q : Nat) (TL2 : List ByteArray), q ≤ n5 ∧ iv = .int .i64 (q : Int) ∧ Hid (Rws W wq d s4 [(tv, TL2), (.slice A5 n5 c5, Ls), (u5, AL4)]) ∧ Hid (TL2.Nodup ∧ ∀ k, k ∈ TL2 ↔ k ∈ TL ∨ k ∈ Ls.take q)) (fun _ iv _ => n5 - (intOf iv).toNat)
          case atStart => exact ⟨0, TL, Nat.zero_le _, rfl, HR5, Lib.hid ⟨HW4.out.tnd, fun k => by simp⟩⟩
          case round => as_aux_lemma =>
            obtain ⟨q, TL2, hq, rfl, HR6, HTL⟩ := hrel
            clear HR5
            by_cases hqn : q < n5
            · have hql : q < Ls.length := by rw [← HN5.out]; exact hqn
              have hrowL : wr.ownsRow W.heap.size 9 1 (.slice A5 n5 c5) Ls.length (Ls.map Value.string) := HR6.out.row (.slice A5 n5 c5, Ls) (by simp)
              obtain ⟨g8, o8, hA5, hc5⟩ := row_txt hrowL q hql
              subst hA5
              obtain ⟨x, hx⟩ : ∃ x, x = Ls[q] := ⟨_, rfl⟩
              rw [← hx] at hc5
              have hxm : x ∈ Ls := by rw [hx]; exact List.getElem_mem hql
              obtain ⟨v, hv⟩ := HKI.out x hxm
              have HME := Lib.hid hv
              have HTB2 : Hid (TL2.length ≤ 5300) := Lib.hid (by
                have h1 := nodup_len TL2 E4 HTL.out.1 (fun k hk => by
                  rcases (HTL.out.2 k).1 hk with h2 | h2
                  · exact HW4.out.tE k h2
                  · exact HW4.out.sE k (HKI.out k (List.mem_of_mem_take h2)))
                have h2 := HEB.out
                omega)
              have HGT := Lib.hid (get_any HR6.out.dk.at' HR6.out.dk.inv x (key_small HR6.out.dk.inv ⟨v, hv⟩))
              have HTK : Hid (Ls.take (q + 1) = Ls.take q ++ [x]) := Lib.hid (by rw [List.take_succ_eq_append_getElem hql, hx])
              have hqI : (q : Int) < (n5 : Int) := by omega
              have HQN := Lib.hid hqn
              have HQL := Lib.hid hql
              have HX := Lib.hid hx
              have HC5 := Lib.hid hc5
              clear hx hxm hv hrowL hqn
              go_wp2_with fail
              refine HGT.out.mono ?_
              rintro e w6 ⟨hg, hb⟩
              obtain rfl := GetR.yes hg HME.out HR6.out.dk.inv.nd
              have HR7 := Lib.hid (HR6.out.below hb)
              have hc6 : w6.cell? ⟨g8, o8 + q, none⟩ = some (.string x) := (hb.cell (p := ⟨g8, o8 + q, none⟩) (World.block_lt_of_cell? _ _ HC5.out)).trans HC5.out
              clear hg hb HGT HR6 hc5
              rcases Nat.eq_zero_or_pos q with h0 | h0
              · subst h0
                have hgt : ¬ ((0 : Int) < 0) := by omega
                go_wp2_with fail
                rw [Nat.add_zero] at hc6
                refine wp_region_q [0,0,0,0,0,0,0,0,0,0,1,0,0,0,1,0,0,0] (by kernel_rfl) (by kernel_rfl) ?_
                (refine q_pure_n rfl (fun K hK => ?_); go_simp; refine hK _ _ ?_; clear hK K)
                (refine q_pure_n rfl (fun K hK => ?_); go_simp; refine hK _ _ ?_; clear hK K)
                (refine q_pure_n rfl (fun K hK => ?_); go_simp; refine hK _ _ ?_; clear hK K)
                first | (refine q_pure_x rfl ?hy (fun K hK => ?_); (case hy => rfl); go_simp; refine hK _ _ ?_; clear hK K) | (refine q_pure_u rfl ?hy (fun K hK => ?_); (case hy => rfl); go_simp; refine hK _ _ ?_; clear hK K) | (refine q_pure_y rfl ?hy (fun K hK => ?_); (case hy => rfl); go_simp; refine hK _ _ ?_; clear hK K)
                first | (refine q_pure_x rfl ?hy (fun K hK => ?_); (case hy => rfl); go_simp; refine hK _ _ ?_; clear hK K) | (refine q_pure_u rfl ?hy (fun K hK => ?_); (case hy => rfl); go_simp; refine hK _ _ ?_; clear hK K) | (refine q_pure_y rfl ?hy (fun K hK => ?_); (case hy => rfl); go_simp; refine hK _ _ ?_; clear hK K)
                first | (refine q_pure_x rfl ?hy (fun K hK => ?_); (case hy => rfl); go_simp; refine hK _ _ ?_; clear hK K) | (refine q_pure_u rfl ?hy (fun K hK => ?_); (case hy => rfl); go_simp; refine hK _ _ ?_; clear hK K) | (refine q_pure_y rfl ?hy (fun K hK => ?_); (case hy => rfl); go_simp; refine hK _ _ ?_; clear hK K)
                first | (refine q_pure_x rfl ?hy (fun K hK => ?_); (case hy => rfl); go_simp; refine hK _ _ ?_; clear hK K) | (refine q_pure_u rfl ?hy (fun K hK => ?_); (case hy => rfl); go_simp; refine hK _ _ ?_; clear hK K) | (refine q_pure_y rfl ?hy (fun K hK => ?_); (case hy => rfl); go_simp; refine hK _ _ ?_; clear hK K)
                first | (refine q_pure_x rfl ?hy (fun K hK => ?_); (case hy => rfl); go_simp; refine hK _ _ ?_; clear hK K) | (refine q_pure_u rfl ?hy (fun K hK => ?_); (case hy => rfl); go_simp; refine hK _ _ ?_; clear hK K) | (refine q_pure_y rfl ?hy (fun K hK => ?_); (case hy => rfl); go_simp; refine hK _ _ ?_; clear hK K)
                first | (refine q_pure_x rfl ?hy (fun K hK => ?_); (case hy => rfl); go_simp; refine hK _ _ ?_; clear hK K) | (refine q_pure_u rfl ?hy (fun K hK => ?_); (case hy => rfl); go_simp; refine hK _ _ ?_; clear hK K) | (refine q_pure_y rfl ?hy (fun K hK => ?_); (case hy => rfl); go_simp; refine hK _ _ ?_; clear hK K)
                first | (refine q_pure_x rfl ?hy (fun K hK => ?_); (case hy => rfl); go_simp; refine hK _ _ ?_; clear hK K) | (refine q_pure_u rfl ?hy (fun K hK => ?_); (case hy => rfl); go_simp; refine hK _ _ ?_; clear hK K) | (refine q_pure_y rfl ?hy (fun K hK => ?_); (case hy => rfl); go_simp; refine hK _ _ ?_; clear hK K)
                first | (refine q_read_x rfl ?hy (fun K hK => ?_); (case hy => rfl); go_simp; refine hK _ _ ?_; clear hK K) | (refine q_read_u rfl ?hy (fun K hK => ?_); (case hy => rfl); go_simp; refine hK _ _ ?_; clear hK K) | (refine q_read_y rfl ?hy (fun K hK => ?_); (case hy => rfl); go_simp; refine hK _ _ ?_; clear hK K)
                first | (refine q_pure_x rfl ?hy (fun K hK => ?_); (case hy => rfl); go_simp; refine hK _ _ ?_; clear hK K) | (refine q_pure_u rfl ?hy (fun K hK => ?_); (case hy => rfl); go_simp; refine hK _ _ ?_; clear hK K) | (refine q_pure_y rfl ?hy (fun K hK => ?_); (case hy => rfl); go_simp; refine hK _ _ ?_; clear hK K)
                first | (refine q_pure_x rfl ?hy (fun K hK => ?_); (case hy => rfl); go_simp; refine hK _ _ ?_; clear hK K) | (refine q_pure_u rfl ?hy (fun K hK => ?_); (case hy => rfl); go_simp; refine hK _ _ ?_; clear hK K) | (refine q_pure_y rfl ?hy (fun K hK => ?_); (case hy => rfl); go_simp; refine hK _ _ ?_; clear hK K)
                first | (refine q_pure_x rfl ?hy (fun K hK => ?_); (case hy => rfl); go_simp; refine hK _ _ ?_; clear hK K) | (refine q_pure_u rfl ?hy (fun K hK => ?_); (case hy => rfl); go_simp; refine hK _ _ ?_; clear hK K) | (refine q_pure_y rfl ?hy (fun K hK => ?_); (case hy => rfl); go_simp; refine hK _ _ ?_; clear hK K)
                first | (refine q_read_x rfl ?hy (fun K hK => ?_); (case hy => rfl); go_simp; refine hK _ _ ?_; clear hK K) | (refine q_read_u rfl ?hy (fun K hK => ?_); (case hy => rfl); go_simp; refine hK _ _ ?_; clear hK K) | (refine q_read_y rfl ?hy (fun K hK => ?_); (case hy => rfl); go_simp; refine hK _ _ ?_; clear hK K)
                first | (refine q_pure_x rfl ?hy (fun K hK => ?_); (case hy => rfl); go_simp; refine hK _ _ ?_; clear hK K) | (refine q_pure_u rfl ?hy (fun K hK => ?_); (case hy => rfl); go_simp; refine hK _ _ ?_; clear hK K) | (refine q_pure_y rfl ?hy (fun K hK => ?_); (case hy => rfl); go_simp; refine hK _ _ ?_; clear hK K)
                first | (refine q_pure_x rfl ?hy (fun K hK => ?_); (case hy => rfl); go_simp; refine hK _ _ ?_; clear hK K) | (refine q_pure_u rfl ?hy (fun K hK => ?_); (case hy => rfl); go_simp; refine hK _ _ ?_; clear hK K) | (refine q_pure_y rfl ?hy (fun K hK => ?_); (case hy => rfl); go_simp; refine hK _ _ ?_; clear hK K)
                (refine q_pure_n rfl (fun K hK => ?_); go_simp; refine hK _ _ ?_; clear hK K)
                refine q_nil ?_
                intro nq
                obtain ⟨A6, c6, h6⟩ := HR7.out.slice (r := (u6, TL2)) (by simp)
                have h6 : u6 = .slice A6 TL2.length c6 := h6
                subst h6
                obtain ⟨m, hm⟩ : ∃ m, m = TL2.length := ⟨_, rfl⟩
                have HM := Lib.hid hm
                rw [← hm] at HR7 ⊢
                have hm5 : m ≤ 5300 := by rw [hm]; exact HTB2.out
                obtain ⟨W8, hW8⟩ : ∃ W8, W8 = w6.drewN nq := ⟨_, rfl⟩
                have HR8 : Hid (Rws W W8 d s4 [(.slice A6 m c6, TL2), (.slice (some ⟨g8, o8, none⟩) n5 c5, Ls), (u5, AL4)]) := Lib.hid (by rw [hW8]; exact HR7.out.below (below_drewN (Below.refl _ _) _))
                have hc8 : W8.cell? ⟨g8, o8, none⟩ = some (.string x) := by rw [hW8]; exact hc6
                have HHS : Hid (Calls Tryd.prog 12 #[.slice A6 m c6, .string x] W8 fun e w' => HasR TL2 x e ∧ W8 = w') := Lib.hid (by
                  have h1 := has_any (w := W8) (A := A6) (c := c6) TL2 x (by rw [← HM.out]; omega) (row_txt (by
                    have := HR8.out.row (.slice A6 m c6, TL2) (by simp)
                    have h9 : W8.ownsRow W.heap.size 9 1 (.slice A6 m c6) TL2.length (TL2.map Value.string) := this
                    exact h9))
                  rw [← HM.out] at h1
                  exact h1)
                rw [← hW8]
                clear hW8 hc6 hm HR7
                go_wp2_with fail
                refine HHS.out.mono ?_
                rintro e w' ⟨⟨b, rfl, hbb⟩, rfl⟩
                cases b with
                | true =>
                  have HT3 : Hid (TL2.Nodup ∧ ∀ k, k ∈ TL2 ↔ k ∈ TL ∨ k ∈ Ls.take (0 + 1)) := Lib.hid ⟨HTL.out.1, fun k => by
                    rw [HTK.out, List.mem_append, HTL.out.2 k]
                    constructor
                    · rintro (h1 | h1)
                      · exact .inl h1
                      · exact .inr (.inl h1)
                    · rintro (h1 | h1 | h1)
                      · exact .inl h1
                      · exact .inr h1
                      · have h2 : k = x := by simpa using h1
                        exact (HTL.out.2 k).1 (by rw [h2]; exact hbb.1 rfl)⟩
                  clear hbb HHS
                  go_wp2_with fail
                  exact ⟨⟨1, TL2, HQN.out, by go_num, HR8, HT3⟩, by have := HQN.out; simp only [intOf]; omega⟩
                | false =>
                  have hxn : x ∉ TL2 := fun h => by have := hbb.2 h; cases this
                  have HT3 : Hid ((TL2 ++ [x]).Nodup ∧ ∀ k, k ∈ TL2 ++ [x] ↔ k ∈ TL ∨ k ∈ Ls.take (0 + 1)) := Lib.hid ⟨List.nodup_append.2 ⟨HTL.out.1, by simp, fun y hy z hz e => by
                      have h2 : z = x := by simpa using hz
                      rw [e, h2] at hy
                      exact hxn hy⟩, fun k => by
                    rw [HTK.out, List.mem_append, List.mem_append, HTL.out.2 k]
                    exact or_assoc⟩
                  have hal : (W8.alloc (.cells #[.string x] 9)).ownsRow W.heap.size 9 1 (.slice A6 m c6) m (TL2.map Value.string) := by
                    have := (HR8.out.row (.slice A6 m c6, TL2) (by simp)).alloc (.cells #[.string x] 9)
                    rw [← HM.out] at this
                    exact this
                  have HAL := Lib.hid hal
                  have HSZ := Lib.hid HR8.out.dk.bnd
                  clear hbb HHS hxn hal
                  go_wp2_with (at_builtin; refine wpList_append2 _ rfl _ _ 33 rfl W.heap.size 9 i0 (.string ⟨#[]⟩) 1 16 Tryd.underlying33 HI.out HZ0.out HZ1.out HZ2.out rfl (by decide) _ _ _ rfl HAL.out ⟨W8.heap.size, 0, none⟩ 1 1 [.string x] rfl rfl Nat.one_pos ?r1 ?r2 ?r3 ?r4 ?r5 ?_)
                  try (case r1 => exact new_cells W8 [.string x] _)
                  case r2 => simp [Value.oneCell']
                  case r3 => unfold maxLen; omega
                  case r4 => omega
                  case r5 => have := HSZ.out; simp; omega
                  intro v9 w9 hown hgr
                  have hgr2 : (v9.ownBlock = (Value.slice A6 m c6).ownBlock ∧ (W8.alloc (.cells #[.string x] 9)).grownBy w9 (Value.slice A6 m c6).ownBlock) ∨ (∃ r, v9.ownBlock = some r ∧ (W8.alloc (.cells #[.string x] 9)).heap.size ≤ r) ∧ (W8.alloc (.cells #[.string x] 9)).grownBy w9 none := by simpa using hgr
                  have HR9 := Lib.hid (HR8.out.push (o := .cells #[.string x] 9) (by rw [← HM.out]; exact hown) hgr2)
                  clear hown hgr hgr2 HAL HSZ HR8
                  go_wp2_with fail
                  exact ⟨⟨1, TL2 ++ [x], HQN.out, by go_num, HR9, HT3⟩, by have := HQN.out; simp only [intOf]; omega⟩
              · obtain ⟨p, rfl⟩ : ∃ p, q = p + 1 := ⟨q - 1, by omega⟩
                have hpl : p < Ls.length := by have := HQL.out; omega
                have hrow7 : w6.ownsRow W.heap.size 9 1 (.slice (some ⟨g8, o8, none⟩) n5 c5) Ls.length (Ls.map Value.string) := HR7.out.row (.slice (some ⟨g8, o8, none⟩) n5 c5, Ls) (by simp)
                obtain ⟨g9, o9, hA9, hc9⟩ := row_txt hrow7 p hpl
                have e9 : g9 = g8 := by cases hA9; rfl
                have e8 : o9 = o8 := by cases hA9; rfl
                subst e9 e8
                have hlt := HRI.out p HQL.out
                rw [← HX.out] at hlt
                obtain ⟨y, hy⟩ : ∃ y, y = Ls[p] := ⟨_, rfl⟩
                rw [← hy] at hc9 hlt
                have hge : (!Op.bytesLess y.toList x.toList) = false := by rw [hlt]; rfl
                have hpI : ((p + 1 : Nat) : Int) - 1 = (p : Int) := by omega
                have hp0 : (0 : Int) < ((p + 1 : Nat) : Int) := by omega
                have hpb : (p : Int) < (n5 : Int) := by omega
                have hpp : (0 : Int) ≤ (p : Int) + 1 := by omega
                have hqI2 : (p : Int) + 1 < (n5 : Int) := by have := HQN.out; omega
                have hwp : IntKind.i64.wrap (p : Int) = (p : Int) := by rw [IntKind.wrap_i64]; omega
                clear hy hrow7 hA9 h0 hpl
                go_wp2_with fail
                refine wp_region_q [0,0,0,0,0,0,0,0,0,0,1,0,0,0,1,0,0,0] (by kernel_rfl) (by kernel_rfl) ?_
                (refine q_pure_n rfl (fun K hK => ?_); go_simp; refine hK _ _ ?_; clear hK K)
                (refine q_pure_n rfl (fun K hK => ?_); go_simp; refine hK _ _ ?_; clear hK K)
                (refine q_pure_n rfl (fun K hK => ?_); go_simp; refine hK _ _ ?_; clear hK K)
                first | (refine q_pure_x rfl ?hy (fun K hK => ?_); (case hy => rfl); go_simp; refine hK _ _ ?_; clear hK K) | (refine q_pure_u rfl ?hy (fun K hK => ?_); (case hy => rfl); go_simp; refine hK _ _ ?_; clear hK K) | (refine q_pure_y rfl ?hy (fun K hK => ?_); (case hy => rfl); go_simp; refine hK _ _ ?_; clear hK K)
                first | (refine q_pure_x rfl ?hy (fun K hK => ?_); (case hy => rfl); go_simp; refine hK _ _ ?_; clear hK K) | (refine q_pure_u rfl ?hy (fun K hK => ?_); (case hy => rfl); go_simp; refine hK _ _ ?_; clear hK K) | (refine q_pure_y rfl ?hy (fun K hK => ?_); (case hy => rfl); go_simp; refine hK _ _ ?_; clear hK K)
                first | (refine q_pure_x rfl ?hy (fun K hK => ?_); (case hy => rfl); go_simp; refine hK _ _ ?_; clear hK K) | (refine q_pure_u rfl ?hy (fun K hK => ?_); (case hy => rfl); go_simp; refine hK _ _ ?_; clear hK K) | (refine q_pure_y rfl ?hy (fun K hK => ?_); (case hy => rfl); go_simp; refine hK _ _ ?_; clear hK K)
                first | (refine q_pure_x rfl ?hy (fun K hK => ?_); (case hy => rfl); go_simp; refine hK _ _ ?_; clear hK K) | (refine q_pure_u rfl ?hy (fun K hK => ?_); (case hy => rfl); go_simp; refine hK _ _ ?_; clear hK K) | (refine q_pure_y rfl ?hy (fun K hK => ?_); (case hy => rfl); go_simp; refine hK _ _ ?_; clear hK K)
                first | (refine q_pure_x rfl ?hy (fun K hK => ?_); (case hy => rfl); go_simp; refine hK _ _ ?_; clear hK K) | (refine q_pure_u rfl ?hy (fun K hK => ?_); (case hy => rfl); go_simp; refine hK _ _ ?_; clear hK K) | (refine q_pure_y rfl ?hy (fun K hK => ?_); (case hy => rfl); go_simp; refine hK _ _ ?_; clear hK K)
                first | (refine q_pure_x rfl ?hy (fun K hK => ?_); (case hy => rfl); go_simp; refine hK _ _ ?_; clear hK K) | (refine q_pure_u rfl ?hy (fun K hK => ?_); (case hy => rfl); go_simp; refine hK _ _ ?_; clear hK K) | (refine q_pure_y rfl ?hy (fun K hK => ?_); (case hy => rfl); go_simp; refine hK _ _ ?_; clear hK K)
                first | (refine q_pure_x rfl ?hy (fun K hK => ?_); (case hy => rfl); go_simp; refine hK _ _ ?_; clear hK K) | (refine q_pure_u rfl ?hy (fun K hK => ?_); (case hy => rfl); go_simp; refine hK _ _ ?_; clear hK K) | (refine q_pure_y rfl ?hy (fun K hK => ?_); (case hy => rfl); go_simp; refine hK _ _ ?_; clear hK K)
                first | (refine q_read_x rfl ?hy (fun K hK => ?_); (case hy => rfl); go_simp; refine hK _ _ ?_; clear hK K) | (refine q_read_u rfl ?hy (fun K hK => ?_); (case hy => rfl); go_simp; refine hK _ _ ?_; clear hK K) | (refine q_read_y rfl ?hy (fun K hK => ?_); (case hy => rfl); go_simp; refine hK _ _ ?_; clear hK K)
                first | (refine q_pure_x rfl ?hy (fun K hK => ?_); (case hy => rfl); go_simp; refine hK _ _ ?_; clear hK K) | (refine q_pure_u rfl ?hy (fun K hK => ?_); (case hy => rfl); go_simp; refine hK _ _ ?_; clear hK K) | (refine q_pure_y rfl ?hy (fun K hK => ?_); (case hy => rfl); go_simp; refine hK _ _ ?_; clear hK K)
                first | (refine q_pure_x rfl ?hy (fun K hK => ?_); (case hy => rfl); go_simp; refine hK _ _ ?_; clear hK K) | (refine q_pure_u rfl ?hy (fun K hK => ?_); (case hy => rfl); go_simp; refine hK _ _ ?_; clear hK K) | (refine q_pure_y rfl ?hy (fun K hK => ?_); (case hy => rfl); go_simp; refine hK _ _ ?_; clear hK K)
                first | (refine q_pure_x rfl ?hy (fun K hK => ?_); (case hy => rfl); go_simp; refine hK _ _ ?_; clear hK K) | (refine q_pure_u rfl ?hy (fun K hK => ?_); (case hy => rfl); go_simp; refine hK _ _ ?_; clear hK K) | (refine q_pure_y rfl ?hy (fun K hK => ?_); (case hy => rfl); go_simp; refine hK _ _ ?_; clear hK K)
                first | (refine q_read_x rfl ?hy (fun K hK => ?_); (case hy => rfl); go_simp; refine hK _ _ ?_; clear hK K) | (refine q_read_u rfl ?hy (fun K hK => ?_); (case hy => rfl); go_simp; refine hK _ _ ?_; clear hK K) | (refine q_read_y rfl ?hy (fun K hK => ?_); (case hy => rfl); go_simp; refine hK _ _ ?_; clear hK K)
                first | (refine q_pure_x rfl ?hy (fun K hK => ?_); (case hy => rfl); go_simp; refine hK _ _ ?_; clear hK K) | (refine q_pure_u rfl ?hy (fun K hK => ?_); (case hy => rfl); go_simp; refine hK _ _ ?_; clear hK K) | (refine q_pure_y rfl ?hy (fun K hK => ?_); (case hy => rfl); go_simp; refine hK _ _ ?_; clear hK K)
                first | (refine q_pure_x rfl ?hy (fun K hK => ?_); (case hy => rfl); go_simp; refine hK _ _ ?_; clear hK K) | (refine q_pure_u rfl ?hy (fun K hK => ?_); (case hy => rfl); go_simp; refine hK _ _ ?_; clear hK K) | (refine q_pure_y rfl ?hy (fun K hK => ?_); (case hy => rfl); go_simp; refine hK _ _ ?_; clear hK K)
                (refine q_pure_n rfl (fun K hK => ?_); go_simp; refine hK _ _ ?_; clear hK K)
                refine q_nil ?_
                intro nq
                obtain ⟨A6, c6, h6⟩ := HR7.out.slice (r := (u6, TL2)) (by simp)
                have h6 : u6 = .slice A6 TL2.length c6 := h6
                subst h6
                obtain ⟨m, hm⟩ : ∃ m, m = TL2.length := ⟨_, rfl⟩
                have HM := Lib.hid hm
                rw [← hm] at HR7 ⊢
                have hm5 : m ≤ 5300 := by rw [hm]; exact HTB2.out
                obtain ⟨W8, hW8⟩ : ∃ W8, W8 = w6.drewN nq := ⟨_, rfl⟩
                have HR8 : Hid (Rws W W8 d s4 [(.slice A6 m c6, TL2), (.slice (some ⟨g9, o9, none⟩) n5 c5, Ls), (u5, AL4)]) := Lib.hid (by rw [hW8]; exact HR7.out.below (below_drewN (Below.refl _ _) _))
                have hc8 : W8.cell? ⟨g9, o9 + (p + 1), none⟩ = some (.string x) := by rw [hW8]; exact hc6
                have HHS : Hid (Calls Tryd.prog 12 #[.slice A6 m c6, .string x] W8 fun e w' => HasR TL2 x e ∧ W8 = w') := Lib.hid (by
                  have h1 := has_any (w := W8) (A := A6) (c := c6) TL2 x (by rw [← HM.out]; omega) (row_txt (by
                    have := HR8.out.row (.slice A6 m c6, TL2) (by simp)
                    have h9 : W8.ownsRow W.heap.size 9 1 (.slice A6 m c6) TL2.length (TL2.map Value.string) := this
                    exact h9))
                  rw [← HM.out] at h1
                  exact h1)
                rw [← hW8]
                clear hW8 hc6 hm HR7
                go_wp2_with fail
                refine HHS.out.mono ?_
                rintro e w' ⟨⟨b, rfl, hbb⟩, rfl⟩
                cases b with
                | true =>
                  have HT3 : Hid (TL2.Nodup ∧ ∀ k, k ∈ TL2 ↔ k ∈ TL ∨ k ∈ Ls.take ((p + 1) + 1)) := Lib.hid ⟨HTL.out.1, fun k => by
                    rw [HTK.out, List.mem_append, HTL.out.2 k]
                    constructor
                    · rintro (h1 | h1)
                      · exact .inl h1
                      · exact .inr (.inl h1)
                    · rintro (h1 | h1 | h1)
                      · exact .inl h1
                      · exact .inr h1
                      · have h2 : k = x := by simpa using h1
                        exact (HTL.out.2 k).1 (by rw [h2]; exact hbb.1 rfl)⟩
                  clear hbb HHS
                  go_wp2_with fail
                  exact ⟨⟨p + 1 + 1, TL2, HQN.out, by go_num, HR8, HT3⟩, by have := HQN.out; simp only [intOf]; omega⟩
                | false =>
                  have hxn : x ∉ TL2 := fun h => by have := hbb.2 h; cases this
                  have HT3 : Hid ((TL2 ++ [x]).Nodup ∧ ∀ k, k ∈ TL2 ++ [x] ↔ k ∈ TL ∨ k ∈ Ls.take ((p + 1) + 1)) := Lib.hid ⟨List.nodup_append.2 ⟨HTL.out.1, by simp, fun y hy z hz e => by
                      have h2 : z = x := by simpa using hz
                      rw [e, h2] at hy
                      exact hxn hy⟩, fun k => by
                    rw [HTK.out, List.mem_append, List.mem_append, HTL.out.2 k]
                    exact or_assoc⟩
                  have hal : (W8.alloc (.cells #[.string x] 9)).ownsRow W.heap.size 9 1 (.slice A6 m c6) m (TL2.map Value.string) := by
                    have := (HR8.out.row (.slice A6 m c6, TL2) (by simp)).alloc (.cells #[.string x] 9)
                    rw [← HM.out] at this
                    exact this
                  have HAL := Lib.hid hal
                  have HSZ := Lib.hid HR8.out.dk.bnd
                  clear hbb HHS hxn hal
                  go_wp2_with (at_builtin; refine wpList_append2 _ rfl _ _ 33 rfl W.heap.size 9 i0 (.string ⟨#[]⟩) 1 16 Tryd.underlying33 HI.out HZ0.out HZ1.out HZ2.out rfl (by decide) _ _ _ rfl HAL.out ⟨W8.heap.size, 0, none⟩ 1 1 [.string x] rfl rfl Nat.one_pos ?t1 ?t2 ?t3 ?t4 ?t5 ?_)
                  try (case t1 => exact new_cells W8 [.string x] _)
                  case t2 => simp [Value.oneCell']
                  case t3 => unfold maxLen; omega
                  case t4 => omega
                  case t5 => have := HSZ.out; simp; omega
                  intro v9 w9 hown hgr
                  have hgr2 : (v9.ownBlock = (Value.slice A6 m c6).ownBlock ∧ (W8.alloc (.cells #[.string x] 9)).grownBy w9 (Value.slice A6 m c6).ownBlock) ∨ (∃ r, v9.ownBlock = some r ∧ (W8.alloc (.cells #[.string x] 9)).heap.size ≤ r) ∧ (W8.alloc (.cells #[.string x] 9)).grownBy w9 none := by simpa using hgr
                  have HR9 := Lib.hid (HR8.out.push (o := .cells #[.string x] 9) (by rw [← HM.out]; exact hown) hgr2)
                  clear hown hgr hgr2 HAL HSZ HR8
                  go_wp2_with fail
                  exact ⟨⟨p + 1 + 1, TL2 ++ [x], HQN.out, by go_num, HR9, HT3⟩, by have := HQN.out; simp only [intOf]; omega⟩
            · have hqI : ¬ ((q : Int) < (n5 : Int)) := by omega
              have HS4 := Lib.hid (HW4.out.scan HSN.out HTL.out.1 (fun k => by
                have h1 := HTL.out.2 k
                have h2 : q = Ls.length := by rw [← HN5.out]; omega
                rw [h2, List.take_length] at h1
                exact h1))
              have HR7 : Hid (Rws W wr d s4 [(u6, TL2), (u5, AL4)]) := Lib.hid ((HR6.out.perm (rs' := [(.slice A5 n5 c5, Ls), (u6, TL2), (u5, AL4)]) (List.Perm.swap _ _ _)).tail)
              clear hqn HR6
              rcases Classical.em (c' = 0#64) with hz | hz
              · have HAT := Lib.hid (HS4.out.1 hz)
                have heq0 : ∀ (w : World) (t : TypeId), (binOp .eql t (U c') (U 0#64)).run Tryd.prog w = .ok (.bool true) w := fun w t => by
                  rw [hz]
                  exact run_eql Tryd.prog t w 0#64 0#64
                clear hz
                obtain ⟨A9, c9, h9⟩ := HR7.out.slice (r := (u5, AL4)) (by simp)
                have h9 : u5 = .slice A9 AL4.length c9 := h9
                subst h9
                obtain ⟨n9, hn9⟩ : ∃ n9, n9 = AL4.length := ⟨_, rfl⟩
                have HN9 := Lib.hid hn9
                rw [← hn9] at HR7 ⊢
                have hn92 : n9 ≤ 255 := by rw [hn9]; exact HA8.out
                obtain ⟨A6, c6, h6⟩ := HR7.out.slice (r := (u6, TL2)) (by simp)
                have h6 : u6 = .slice A6 TL2.length c6 := h6
                subst h6
                obtain ⟨m, hm⟩ : ∃ m, m = TL2.length := ⟨_, rfl⟩
                have HM := Lib.hid hm
                rw [← hm] at HR7 ⊢
                have HM5 : Hid (m ≤ 5300) := Lib.hid (by
                  rw [hm]
                  have h1 := nodup_len TL2 E4 HTL.out.1 (fun k hk => by
                    rcases (HTL.out.2 k).1 hk with h2 | h2
                    · exact HW4.out.tE k h2
                    · exact HW4.out.sE k (HKI.out k (List.mem_of_mem_take h2)))
                  have h2 := HEB.out
                  omega)
                clear hn9 hm
                go_wp2_with fail
                go_loopw [22] (fun iv wq => ∃ q : Nat, q ≤ n9 ∧ iv = .int .i64 (q : Int) ∧ Hid (Rws W wq d s4 [(.slice A6 m c6, TL2), (.slice A9 n9 c9, AL4)])) (fun iv _ => n9 - (intOf iv).toNat)
                case atStart => exact ⟨0, Nat.zero_le _, rfl, HR7⟩
                case round => as_aux_lemma =>
                  clear HR7 hqI hq
                  obtain ⟨q, hq, rfl, HR7⟩ := hrel
                  by_cases hqn : q < n9
                  · have hql : q < AL4.length := by rw [← HN9.out]; exact hqn
                    have hrowL : wr.ownsRow W.heap.size 9 1 (.slice A9 n9 c9) AL4.length (AL4.map Value.string) := HR7.out.row (.slice A9 n9 c9, AL4) (by simp)
                    obtain ⟨g8, o8, hA9, hc5⟩ := row_txt hrowL q hql
                    subst hA9
                    obtain ⟨x, hx⟩ : ∃ x, x = AL4[q] := ⟨_, rfl⟩
                    rw [← hx] at hc5
                    have hxm : x ∈ TL2 := HAT.out x (by rw [hx]; exact List.getElem_mem hql)
                    have HHS : Hid (Calls Tryd.prog 12 #[.slice A6 m c6, .string x] wr fun e w' => HasR TL2 x e ∧ wr = w') := Lib.hid (by
                      have h1 := has_any (w := wr) (A := A6) (c := c6) TL2 x (by rw [← HM.out]; have := HM5.out; omega) (row_txt (by
                        have := HR7.out.row (.slice A6 m c6, TL2) (by simp)
                        have h9 : wr.ownsRow W.heap.size 9 1 (.slice A6 m c6) TL2.length (TL2.map Value.string) := this
                        exact h9))
                      rw [← HM.out] at h1
                      exact h1)
                    have HXM := Lib.hid hxm
                    have HQN := Lib.hid hqn
                    have hqI : (q : Int) < (n9 : Int) := by omega
                    clear hx hxm hrowL hqn
                    go_wp2_with fail
                    refine HHS.out.mono ?_
                    rintro e w' ⟨⟨b, rfl, hbb⟩, rfl⟩
                    have hbt : b = true := hbb.2 HXM.out
                    subst hbt
                    clear hbb HHS
                    go_wp2_with fail
                    exact ⟨⟨q + 1, HQN.out, by go_num, HR7⟩, by have := HQN.out; simp only [intOf]; omega⟩
                  · have hqI : ¬ ((q : Int) < (n9 : Int)) := by omega
                    clear hqn
                    go_wp2_with fail
                    go_ret
                    exact ⟨rfl, HFIN.out _ HR7.out.bel⟩
              · obtain ⟨hr0, hno, hyes⟩ := HS4.out.2 hz
                have heq0 : ∀ (w : World) (t : TypeId), (binOp .eql t (U c') (U 0#64)).run Tryd.prog w = .ok (.bool false) w := fun w t => by
                  have h1 := run_eql Tryd.prog t w c' 0#64
                  have h2 : (c' == 0#64) = false := by rw [beq_eq_false_iff_ne]; exact hz
                  rw [h2] at h1
                  exact h1
                have HME := Lib.hid (meas_all HST.out hr0)
                have HNO := Lib.hid hno
                have HYES := Lib.hid hyes
                have hcl : call ≤ 200 + left := HCL.out.1
                have hll : left < 1099511627776 := HCL.out.2
                obtain ⟨-, -, -, -, b4⟩ := HBX.out wr HR7.out.bel
                clear hz hr0 hno hyes HS4
                by_cases h2 : (200 : Int) ≤ (call : Int)
                · have HNX := HYES.out (.inl (by omega))
                  have HW7 := Lib.hid HNX.1
                  have HL7 : Hid (call + 1 ≤ 200 + (left + 1) ∧ left + 1 < 1099511627776) := Lib.hid ⟨by have := HCL.out.1; omega, HNX.2.2⟩
                  have hng : ¬ ((s4.p0.length : Int) < (left : Int) + 1) := by have := HNX.2.1; omega
                  have HSL := Lib.hid (slots_any HR7.out.dk.at')
                  clear HNX
                  go_wp2_with fail
                  refine HSL.out.mono ?_
                  rintro e w7 ⟨rfl, hb⟩
                  have HR8 := Lib.hid (HR7.out.below hb)
                  clear hb HSL
                  go_wp2_with fail
                  go_roundg (meas ts.length (call + 1) at2 c')
                  case measure => rw [HG.out]; exact HME.out
                  case rel => exact ⟨s4, AL4, TL2, E4, c', at2, left + 1, call + 1, rfl, rfl, by go_num, by go_num, Lib.hid rfl, HR8, HW7, HL7, HA8⟩
                · by_cases h3 : (ts.length : Int) ≤ (at2 : Int)
                  · have HNX := HYES.out (.inr (by omega))
                    have HW7 := Lib.hid HNX.1
                    have HL7 : Hid (call + 1 ≤ 200 + (left + 1) ∧ left + 1 < 1099511627776) := Lib.hid ⟨by have := HCL.out.1; omega, HNX.2.2⟩
                    have hng : ¬ ((s4.p0.length : Int) < (left : Int) + 1) := by have := HNX.2.1; omega
                    have HSL := Lib.hid (slots_any HR7.out.dk.at')
                    clear HNX
                    go_wp2_with fail
                    refine HSL.out.mono ?_
                    rintro e w7 ⟨rfl, hb⟩
                    have HR8 := Lib.hid (HR7.out.below hb)
                    clear hb HSL
                    go_wp2_with fail
                    go_roundg (meas ts.length (call + 1) at2 c')
                    case measure => rw [HG.out]; exact HME.out
                    case rel => exact ⟨s4, AL4, TL2, E4, c', at2, left + 1, call + 1, rfl, rfl, by go_num, by go_num, Lib.hid rfl, HR8, HW7, HL7, HA8⟩
                  · have hns : ¬ Still ts.length call at2 := fun h => by rcases h with h | h <;> omega
                    obtain ⟨hw7, hl0⟩ := HNO.out hns
                    subst hl0
                    have HW7 := Lib.hid hw7
                    have HL7 : Hid (call + 1 ≤ 200 + 0 ∧ 0 < 1099511627776) := Lib.hid ⟨by omega, by omega⟩
                    clear hns hw7
                    go_wp2_with fail
                    go_roundg (meas ts.length (call + 1) at2 c')
                    case measure => rw [HG.out]; exact HME.out
                    case rel => exact ⟨s4, AL4, TL2, E4, c', at2, 0, call + 1, rfl, rfl, by go_num, by go_num, Lib.hid rfl, HR7, HW7, HL7, HA8⟩
end Go.Proofs.YtnoalklbgncajaaDoor.DictWalks
