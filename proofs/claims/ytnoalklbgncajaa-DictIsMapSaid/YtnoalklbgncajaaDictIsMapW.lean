/- The walk of DictIsMap: it answers true. -/
import Derived.Test.YtnoalklbgncajaaMp07
namespace Go.Proofs.Ytnoalklbgncajaa.DictIsMap
open Go Go.MapKept Go.RowKit Go.Proofs.Ytnoalklbgncajaa.Pin Go.Proofs.Ytnoalklbgncajaa.Mps Go.Proofs.Ytnoalklbgncajaa.Bok Go.Proofs.Ytnoalklbgncajaa.Uw Go.Proofs.Ytnoalklbgncajaa.Sip Go.Proofs.Ytnoalklbgncajaa.Dct
attribute [local go_sem high] run_store_U cells_U eqGuard_U asIntOf_U
/-- where a key lies in what has been looked through -/
structure At (L : Ents) (key : ByteArray) (k : Nat) (at' : Option Nat) : Prop where
  no : at' = none → ∀ y ∈ L.take k, y.1 ≠ key
  yes : ∀ q, at' = some q → q < k ∧ ∃ v, L[q]? = some (key, v)
def atV : Option Nat → Value
  | none => .int .i64 (-1)
  | some q => .int .i64 (q : Int)
theorem row_key {w : World} {B n c : Nat} {A : Option Addr} {L : Ents} (h : w.ownsRow B 9 1 (.slice A n c) (L.map (·.1)).length ((L.map (·.1)).map Value.string)) {k : Nat} (hk : k < L.length) : n = L.length ∧ ∃ g, A = some ⟨g, 0, none⟩ ∧ w.cell? ⟨g, k, none⟩ = some (.string (L[k]).1) ∧ w.frozen? ⟨g, k, none⟩ = false := by
  rcases h.2 with ⟨h0, hn⟩ | ⟨g, cap, cur, e, hb, hg, _⟩
  · rw [List.length_map] at hn; omega
  · have hA : A = some ⟨g, 0, none⟩ := by cases e; rfl
    have hn : n = (L.map (·.1)).length := by cases e; rfl
    subst hA
    subst hn
    refine ⟨by simp, g, rfl, ?_, Lib.frozen_of_heap hg k⟩
    rw [h.cellAt k (by rw [List.length_map]; omega)]
    simp [hk]
theorem row_val {w : World} {B n c : Nat} {A : Option Addr} {L : Ents} (h : w.ownsRow B 3 1 (.slice A n c) (L.map (·.2)).length ((L.map (·.2)).map (Value.int .i64))) {k : Nat} (hk : k < L.length) : n = L.length ∧ ∃ g, A = some ⟨g, 0, none⟩ ∧ w.cell? ⟨g, k, none⟩ = some (.int .i64 (L[k]).2) ∧ w.frozen? ⟨g, k, none⟩ = false := by
  rcases h.2 with ⟨h0, hn⟩ | ⟨g, cap, cur, e, hb, hg, _⟩
  · rw [List.length_map] at hn; omega
  · have hA : A = some ⟨g, 0, none⟩ := by cases e; rfl
    have hn : n = (L.map (·.2)).length := by cases e; rfl
    subst hA
    subst hn
    refine ⟨by simp, g, rfl, ?_, Lib.frozen_of_heap hg k⟩
    rw [h.cellAt k (by rw [List.length_map]; omega)]
    simp [hk]
theorem row_txt {w : World} {B : Nat} {A : Option Addr} {n c : Nat} {L : List ByteArray} (h : w.ownsRow B 9 1 (.slice A n c) L.length (L.map Value.string)) : ∀ j (hj : j < L.length), ∃ g o, A = some ⟨g, o, none⟩ ∧ w.cell? ⟨g, o + j, none⟩ = some (.string L[j]) := by
  intro j hj
  rcases h.2 with ⟨h0, hn⟩ | ⟨g, cap, cur, e, hb, hg, _⟩
  · rw [hn] at hj; omega
  · have hA : A = some ⟨g, 0, none⟩ := by cases e; rfl
    have hn : n = L.length := by cases e; rfl
    subst hA
    subst hn
    refine ⟨g, 0, rfl, ?_⟩
    rw [Nat.zero_add, h.cellAt j (by omega)]
    simp [hj]
theorem row_cap {w : World} {B n c : Nat} {A : Option Addr} {T : TypeId} {k : Nat} {xs : List Value} (h : w.ownsRow B T 1 (.slice A n c) k xs) : n ≤ c ∧ c ≤ maxLen := by
  rcases h.2 with ⟨h0, _⟩ | ⟨g, cap, cur, e, hb, hg, h1, h2, _⟩
  · cases h0; exact ⟨Nat.le_refl _, Nat.zero_le _⟩
  · cases e; exact ⟨h1, h2⟩
theorem At.get {L : Ents} {key : ByteArray} {q : Nat} (h : At L key L.length (some q)) : ∃ (hq : q < L.length) (v : Int), L[q] = (key, v) ∧ L.Perm ((key, v) :: L.eraseIdx q) := by
  obtain ⟨h1, v, h2⟩ := h.yes q rfl
  have h3 : L[q] = (key, v) := by
    rw [List.getElem?_eq_getElem h1] at h2
    exact Option.some.inj h2
  exact ⟨h1, v, h3, by rw [← h3]; exact perm_erase L q h1⟩
theorem At.none {L : Ents} {key : ByteArray} (h : At L key L.length Option.none) : ∀ y ∈ L, y.1 ≠ key := by
  have := h.no rfl
  rw [List.take_length] at this
  exact this
theorem map_set1 {L : Ents} {key : ByteArray} {q : Nat} {v n : Int} (hq : q < L.length) (h : L[q] = (key, v)) : (L.set q (key, n)).map (·.1) = L.map (·.1) := by
  rw [List.map_set]
  have h1 : (L.map (·.1))[q]'(by simpa using hq) = key := by simp [h]
  show (L.map (·.1)).set q key = _
  rw [← h1]
  exact List.set_getElem_self _
set_option maxHeartbeats 8000000 in
set_option maxRecDepth 100000 in
theorem walk (sd : BitVec 64) (A : Option Addr) (ts : List OpT) (cap : Nat) (w : World) (hT : OpsAt w A ts) (hl : ts.length ≤ 140737488351232) (hs : ∀ t ∈ ts, t.2.1.size ≤ 140737488351232 ∧ (-9223372036854775808 ≤ t.2.2.1 ∧ t.2.2.1 ≤ 9223372036854775807) ∧ ∃ z : Int, t.2.2.2 = .int .u64 z) :
    Calls Try.prog 4 #[U sd, .slice A ts.length cap] w fun e w' => e = .returned (.bool true) ∧ Below w.heap.size w w' := by
  obtain ⟨i0, hi, hz0, hz1, hz2⟩ := info_parts sinfo
  have HI := Lib.hid hi
  have HZ0 := Lib.hid hz0
  have HZ1 := Lib.hid hz1
  have HZ2 := Lib.hid hz2
  clear hi hz0 hz1 hz2
  obtain ⟨i1, hi, hz0, hz1, hz2⟩ := info_parts iinfo
  have HI1 := Lib.hid hi
  have HY0 := Lib.hid hz0
  have HY1 := Lib.hid hz1
  have HY2 := Lib.hid hz2
  clear hi hz0 hz1 hz2
  have HT := Lib.hid hT
  have HS := Lib.hid hs
  clear hT hs
  go_enter Try.func4, Try.ntmps4
  go_wp2_with fail
  refine (alive_any w).mono ?_
  rintro e w1 ⟨rfl, hb⟩
  have HB1 := Lib.hid hb
  have HT1 := Lib.hid (HT.out.below hb)
  clear hb
  go_wp2_with fail
  refine (ops_any ts HT1.out (by omega)).mono ?_
  rintro e w' ⟨⟨b, rfl⟩, rfl⟩
  have HEND : Hid (∀ W, Below w.heap.size w W → Calls Try.prog 5 #[] W fun e w' => e = .returned (.bool true) ∧ Below w.heap.size w w') := Lib.hid (fun W hW => (alive_any W).mono fun _ _ ⟨h1, h2⟩ => ⟨h1, hW.trans (h2.mono hW.size)⟩)
  clear HT1
  cases b with
  | true =>
    go_wp2_with fail
    refine (HEND.out _ HB1.out).mono ?_
    rintro e w2 ⟨rfl, hb⟩
    have HB2 := Lib.hid hb
    clear hb
    go_wp2_with fail
    go_ret
    exact ⟨rfl, HB2.out⟩
  | false =>
    by_cases h800 : (800 : Int) < (ts.length : Int)
    · go_wp2_with fail
      refine (HEND.out _ HB1.out).mono ?_
      rintro e w2 ⟨rfl, hb⟩
      have HB2 := Lib.hid hb
      clear hb
      go_wp2_with fail
      go_ret
      exact ⟨rfl, HB2.out⟩
    have HLEN : Hid (ts.length ≤ 800) := Lib.hid (by omega)
    clear HEND
    go_wp2_with fail
    refine (new_dk sd w1).mono ?_
    rintro e w2 ⟨d, s0, rfl, hD, hsd, he, hn, _, hb⟩
    have HM0 : Hid (Mp w w2 d s0 (.slice none 0 0) (.slice none 0 0) [] []) := Lib.hid ⟨⟨hD.at', hD.inv, fun b hb => Nat.le_trans HB1.out.size (hD.own b hb), Nat.le_trans HB1.out.size hb.size⟩, World.ownsRow_nil _ _ _ _, World.ownsRow_nil _ _ _ _, fun b e => (by cases e), fun b e => (by cases e), fun b e => (by cases e), HB1.out.trans (hb.mono HB1.out.size)⟩
    have HE0 := Lib.hid he
    clear hD hsd he hn hb
    go_wp2_with fail
    go_loopw [6, 7, 8] (fun kv vv i wr => ∃ (j : Nat) (s : St) (L : Ents), j ≤ ts.length ∧ i = .int .i64 (j : Int) ∧ Hid (Mp w wr d s kv vv (L.map (·.1)) (L.map (·.2))) ∧ Hid (s.ents.Perm L) ∧ Hid (L.length ≤ j)) (fun _ _ i _ => ts.length - (intOf i).toNat)
    case atStart => exact ⟨0, s0, [], Nat.zero_le _, rfl, HM0, Lib.hid (by rw [HE0.out]), Lib.hid (Nat.le_refl _)⟩
    case round =>
      obtain ⟨j, s1, L, hj, rfl, HM, HP, HLJ⟩ := hrel
      clear HM0 HE0
      by_cases hlt : j < ts.length
      · obtain ⟨g, o, rfl, _, hc0, hc1, hc2, hc3⟩ := HT.out.below HM.out.bel j hlt
        obtain ⟨⟨kd, key, nn, cv⟩, ht⟩ : ∃ t : OpT, t = ts[j] := ⟨_, rfl⟩
        rw [← ht] at hc0 hc1 hc2 hc3
        obtain ⟨hk, hnb, z, hz⟩ : key.size ≤ 140737488351232 ∧ (-9223372036854775808 ≤ nn ∧ nn ≤ 9223372036854775807) ∧ ∃ z : Int, cv = .int .u64 z := by
          have := HS.out ts[j] (List.getElem_mem hlt)
          rw [← ht] at this
          exact this
        subst hz
        have HK := Lib.hid hk
        have HNB := Lib.hid hnb
        have hltI : (j : Int) < (ts.length : Int) := by omega
        have HLT := Lib.hid hlt
        clear hk hnb ht hlt
        go_wp2_with fail
        obtain ⟨W, hW⟩ : ∃ W, W = wr.alloc (.cells #[.int .u8 (kd : Int), .string key, .int .i64 nn, .int .u64 z] 43) := ⟨_, rfl⟩
        obtain ⟨ob, hob⟩ : ∃ ob, ob = wr.heap.size := ⟨_, rfl⟩
        have HMW : Hid (Mp w W d s1 u6 u7 (L.map (·.1)) (L.map (·.2))) := Lib.hid (by rw [hW]; exact HM.out.below ((Below.refl _ _).alloc (Nat.le_refl _) _))
        have HOB : Hid (W.heap[ob]? = some (.cells #[.int .u8 (kd : Int), .string key, .int .i64 nn, .int .u64 z] 43 (0, 0))) := Lib.hid (by rw [hW, hob]; exact heap_alloc_new wr _)
        have HOD : Hid (ob ∉ s1.own d ∧ u6.ownBlock ≠ some ob ∧ u7.ownBlock ≠ some ob) := Lib.hid ⟨fun hm => by have := HM.out.dk.at'.own_lt ob hm; omega, fun e => by have := (HM.out.krow.lt ob e).2; omega, fun e => by have := (HM.out.vrow.lt ob e).2; omega⟩
        rw [← hW, ← hob]
        obtain ⟨A6, c6, h6, _⟩ := row_slice HMW.out.krow
        obtain ⟨A7, c7, h7, _⟩ := row_slice HMW.out.vrow
        obtain ⟨n, hn⟩ : ∃ n, n = L.length := ⟨_, rfl⟩
        rw [List.length_map, ← hn] at h6 h7
        subst h6 h7
        have HN := Lib.hid hn
        have HL8 : Hid (L.length ≤ 800) := Lib.hid (by have h1 := HLJ.out; have h2 := HLT.out; have h3 := HLEN.out; omega)
        have hn8 : n ≤ 800 := by rw [hn]; exact HL8.out
        clear hW hob hn hc0 hc1 hc2 hc3 HM
        go_loopw [10, 11] (fun av i wq => ∃ (k : Nat) (at' : Option Nat), k ≤ n ∧ i = .int .i64 (k : Int) ∧ av = atV at' ∧ Hid (At L key k at') ∧ Hid (Below W.heap.size W wq)) (fun _ i _ => n - (intOf i).toNat)
        case atStart => exact ⟨0, none, Nat.zero_le _, rfl, rfl, Lib.hid ⟨fun _ y hy => by simp at hy, fun q e => by cases e⟩, Lib.hid (Below.refl _ _)⟩
        case round =>
          obtain ⟨k, at', hk, rfl, rfl, HAT, HBQ⟩ := hrel
          have hob1 : wr.heap[ob]? = some (.cells #[.int .u8 (kd : Int), .string key, .int .i64 nn, .int .u64 z] 43 (0, 0)) := (HBQ.out.block ob (Array.getElem?_eq_some_iff.1 HOB.out).1).trans HOB.out
          have HMQ := Lib.hid (HMW.out.below HBQ.out)
          by_cases hkn : k < n
          · have hkl : k < L.length := by rw [← HN.out]; exact hkn
            obtain ⟨-, g6, rfl, hc6, -⟩ := row_key HMQ.out.krow hkl
            obtain ⟨y, hy⟩ : ∃ y, y = (L[k]).1 := ⟨_, rfl⟩
            rw [← hy] at hc6
            have hco : wr.cell? ⟨ob, 1, none⟩ = some (.string key) := by rw [Lib.cell_of_heap hob1]; rfl
            have hkI : (k : Int) < (n : Int) := by omega
            have HKN := Lib.hid hkn
            by_cases he : y = key
            · have heq : (y.toList == key.toList) = true := (txt_eq y key).2 he
              have HA2 : Hid (At L key (k + 1) (some k)) := Lib.hid ⟨fun e => (by cases e), fun q e => (by
                cases e
                exact ⟨Nat.lt_succ_self _, (L[k]).2, by rw [List.getElem?_eq_getElem hkl, ← he, hy]⟩)⟩
              clear he hy hob1 hkn
              go_wp2_with fail
              refine wp_region_q [0,0,0,1,0,1,0] (by kernel_rfl) (by kernel_rfl) ?_
              (refine q_pure_n rfl (fun K hK => ?_); go_simp; refine hK _ _ ?_; clear hK K)
              (refine q_pure_n rfl (fun K hK => ?_); go_simp; refine hK _ _ ?_; clear hK K)
              (refine q_pure_n rfl (fun K hK => ?_); go_simp; refine hK _ _ ?_; clear hK K)
              (refine q_read_n rfl (fun K hK => ?_); go_simp; refine hK _ _ ?_; clear hK K)
              (refine q_pure_n rfl (fun K hK => ?_); go_simp; refine hK _ _ ?_; clear hK K)
              (refine q_read_n rfl (fun K hK => ?_); go_simp; refine hK _ _ ?_; clear hK K)
              (refine q_pure_n rfl (fun K hK => ?_); go_simp; refine hK _ _ ?_; clear hK K)
              refine q_nil ?_
              intro nq
              go_wp2_with fail
              exact ⟨⟨k + 1, some k, HKN.out, by go_num, rfl, HA2, Lib.hid (below_drewN HBQ.out _)⟩, by have := HKN.out; simp only [intOf]; omega⟩
            · have heq : (y.toList == key.toList) = false := txt_ne he
              have HA2 : Hid (At L key (k + 1) at') := Lib.hid ⟨fun e z hz => by
                rw [List.take_succ_eq_append_getElem hkl] at hz
                rcases List.mem_append.1 hz with hz | hz
                · exact HAT.out.no e z hz
                · have : z = L[k] := by simpa using hz
                  rw [this, ← hy]
                  exact he, fun q e => by
                obtain ⟨h1, h2⟩ := HAT.out.yes q e
                exact ⟨by omega, h2⟩⟩
              clear he hy hob1 hkn
              go_wp2_with fail
              refine wp_region_q [0,0,0,1,0,1,0] (by kernel_rfl) (by kernel_rfl) ?_
              (refine q_pure_n rfl (fun K hK => ?_); go_simp; refine hK _ _ ?_; clear hK K)
              (refine q_pure_n rfl (fun K hK => ?_); go_simp; refine hK _ _ ?_; clear hK K)
              (refine q_pure_n rfl (fun K hK => ?_); go_simp; refine hK _ _ ?_; clear hK K)
              (refine q_read_n rfl (fun K hK => ?_); go_simp; refine hK _ _ ?_; clear hK K)
              (refine q_pure_n rfl (fun K hK => ?_); go_simp; refine hK _ _ ?_; clear hK K)
              (refine q_read_n rfl (fun K hK => ?_); go_simp; refine hK _ _ ?_; clear hK K)
              (refine q_pure_n rfl (fun K hK => ?_); go_simp; refine hK _ _ ?_; clear hK K)
              refine q_nil ?_
              intro nq
              go_wp2_with fail
              exact ⟨⟨k + 1, at', HKN.out, by go_num, rfl, HA2, Lib.hid (below_drewN HBQ.out _)⟩, by have := HKN.out; simp only [intOf]; omega⟩
          · have hkI : ¬ ((k : Int) < (n : Int)) := by omega
            have hke : k = n := by omega
            have HAT2 : Hid (At L key L.length at') := Lib.hid (by rw [← HN.out, ← hke]; exact HAT.out)
            have co0 : wr.cell? ⟨ob, 0, none⟩ = some (.int .u8 (kd : Int)) := by rw [Lib.cell_of_heap hob1]; rfl
            have co1 : wr.cell? ⟨ob, 1, none⟩ = some (.string key) := by rw [Lib.cell_of_heap hob1]; rfl
            have co2 : wr.cell? ⟨ob, 2, none⟩ = some (.int .i64 nn) := by rw [Lib.cell_of_heap hob1]; rfl
            have HSN : Hid (s1.n ≤ 274877906944) := Lib.hid (by rw [HMQ.out.dk.cnt HP.out]; have := HL8.out; omega)
            have HOB1 := Lib.hid hob1
            clear hkn hke HAT HMW HOB hob1
            by_cases hk1 : kd = 1
            · subst hk1
              go_wp2_with fail
              refine (set_dk HMQ.out.dk key nn HK.out HSN.out).mono ?_
              rintro e w5 ⟨s2, _, _, hr, _, _, ht⟩
              have HM4 := Lib.hid (HMQ.out.dict ht)
              have hob5 : w5.heap[ob]? = some (.cells #[.int .u8 (1 : Int), .string key, .int .i64 nn, .int .u64 z] 43 (0, 0)) := (ht.frm.block ob (Array.getElem?_eq_some_iff.1 HOB1.out).1 HOD.out.1).trans HOB1.out
              have HOB5 := Lib.hid hob5
              have co51 : w5.cell? ⟨ob, 1, none⟩ = some (.string key) := by rw [Lib.cell_of_heap hob5]; rfl
              have co52 : w5.cell? ⟨ob, 2, none⟩ = some (.int .i64 nn) := by rw [Lib.cell_of_heap hob5]; rfl
              clear hob5
              cases at' with
              | none =>
                obtain ⟨rfl, hp⟩ := hr.new HP.out HAT2.out.none
                have HP5 : Hid (s2.ents.Perm (L ++ [(key, nn)])) := Lib.hid (hp.trans (List.perm_append_comm (l₁ := [(key, nn)])))
                have HN5 : Hid ((L ++ [(key, nn)]).length = n + 1) := Lib.hid (by rw [List.length_append, ← HN.out]; rfl)
                have HLJ5 : Hid ((L ++ [(key, nn)]).length ≤ j + 1) := Lib.hid (by rw [HN5.out, HN.out]; have := HLJ.out; omega)
                have hal := HM4.out.krow.alloc (.cells #[.string key] 9)
                rw [List.length_map, ← HN.out] at hal
                have HAL := Lib.hid hal
                have HSZ := Lib.hid HM4.out.dk.bnd
                clear HLJ HMQ hp hr ht co0 co1 co2 hal
                rw [show atV none = Value.int .i64 (-1) from rfl]
                go_wp2_with (at_builtin; refine wpList_append2 _ rfl _ _ 23 rfl w.heap.size 9 i0 (.string ⟨#[]⟩) 1 16 Try.underlying23 HI.out HZ0.out HZ1.out HZ2.out rfl (by decide) _ _ _ rfl HAL.out ⟨w5.heap.size, 0, none⟩ 1 1 [.string key] rfl rfl Nat.one_pos ?y1 ?y2 ?y3 ?y4 ?y5 ?_)
                try (case y1 => exact new_cells w5 [.string key] _)
                case y2 => simp [Value.oneCell']
                case y3 => unfold maxLen; omega
                case y4 => omega
                case y5 => have := HSZ.out; simp; omega
                intro v6 w6 hown hgr
                have hgr2 : (v6.ownBlock = (Value.slice A6 n c6).ownBlock ∧ (w5.alloc (.cells #[.string key] 9)).grownBy w6 (Value.slice A6 n c6).ownBlock) ∨ (∃ r, v6.ownBlock = some r ∧ (w5.alloc (.cells #[.string key] 9)).heap.size ≤ r) ∧ (w5.alloc (.cells #[.string key] 9)).grownBy w6 none := by simpa using hgr
                have HM6 := Lib.hid (HM4.out.pushK (o := .cells #[.string key] 9) (by rw [List.length_map, ← HN.out, List.map_map]; exact hown) hgr2)
                have hob6 : w6.heap[ob]? = some (.cells #[.int .u8 (1 : Int), .string key, .int .i64 nn, .int .u64 z] 43 (0, 0)) := ((push_frm hgr2).1.block ob (Array.getElem?_eq_some_iff.1 HOB5.out).1 (fun e => HOD.out.2.1 e)).trans HOB5.out
                have co62 : w6.cell? ⟨ob, 2, none⟩ = some (.int .i64 nn) := by rw [Lib.cell_of_heap hob6]; rfl
                have hal := HM6.out.vrow.alloc (.cells #[.int .i64 nn] 3)
                rw [List.length_map, ← HN.out] at hal
                have HAL2 := Lib.hid hal
                obtain ⟨A8, c8, h8, _⟩ := row_slice HM6.out.krow
                rw [List.length_append, List.length_map, ← HN.out] at h8
                subst h8
                have HSZ6 := Lib.hid HM6.out.dk.bnd
                clear hown hgr hgr2 hob6 co51 co52 hal HAL HSZ
                go_wp2_with (at_builtin; refine wpList_append2 _ rfl _ _ 41 rfl w.heap.size 3 i1 (.int .i64 0) 1 8 Try.underlying41 HI1.out HY0.out HY1.out HY2.out rfl (by decide) _ _ _ rfl HAL2.out ⟨w6.heap.size, 0, none⟩ 1 1 [.int .i64 nn] rfl rfl Nat.one_pos ?z1 ?z2 ?z3 ?z4 ?z5 ?_)
                try (case z1 => exact new_cells w6 [.int .i64 nn] _)
                case z2 => simp [Value.oneCell']
                case z3 => unfold maxLen; omega
                case z4 => omega
                case z5 => have := HSZ6.out; simp; omega
                intro v7 w7 hown hgr
                have hgr2 : (v7.ownBlock = (Value.slice A7 n c7).ownBlock ∧ (w6.alloc (.cells #[.int .i64 nn] 3)).grownBy w7 (Value.slice A7 n c7).ownBlock) ∨ (∃ r, v7.ownBlock = some r ∧ (w6.alloc (.cells #[.int .i64 nn] 3)).heap.size ≤ r) ∧ (w6.alloc (.cells #[.int .i64 nn] 3)).grownBy w7 none := by simpa using hgr
                have hm5 := HM6.out.pushV (o := .cells #[.int .i64 nn] 3) (by rw [List.length_map, ← HN.out, List.map_map]; exact hown) hgr2
                rw [show L.map (·.1) ++ [key] = (L ++ [(key, nn)]).map (·.1) by rw [List.map_append]; rfl, show L.map (·.2) ++ [nn] = (L ++ [(key, nn)]).map (·.2) by rw [List.map_append]; rfl] at hm5
                have HM5 := Lib.hid hm5
                clear hown hgr hgr2 hm5 co62 HAL2 HSZ6 HM6 HM4
                go_wp2_with fail
                refine (len_any HM5.out.dk.at').mono ?_
                rintro e w' ⟨rfl, rfl⟩
                rw [show (St.n s2 : Int) = ((n + 1 : Nat) : Int) by rw [HM5.out.dk.cnt HP5.out, HN5.out]]
                go_wp2_with fail
                exact ⟨⟨j + 1, s2, (L ++ [(key, nn)]), HLT.out, by go_num, HM5, HP5, HLJ5⟩, by have := HLT.out; simp only [intOf]; omega⟩
              | some q =>
                obtain ⟨hq, v, hLq, hpq⟩ := HAT2.out.get
                obtain ⟨rfl, hp⟩ := hr.old (HP.out.trans hpq) HMQ.out.dk.inv.nd
                obtain ⟨-, g7, hA7, hc7q, hf7⟩ := row_val HM4.out.vrow hq
                subst hA7
                have hqI : (q : Int) < (n : Int) := by have := HN.out; omega
                have hq0 : ¬ ((q : Int) < 0) := by omega
                have HM5 : Hid (Mp w (w5.setCell ⟨g7, q, none⟩ (.int .i64 nn)) d s2 (.slice A6 n c6) (.slice (some ⟨g7, 0, none⟩) n c7) ((L.set q (key, nn)).map (·.1)) ((L.set q (key, nn)).map (·.2))) := Lib.hid (by
                  have h1 := HM4.out.setV (x := nn) (i := q) (by rw [List.length_map]; exact HN.out) (by rw [HN.out]; exact hq)
                  rw [map_set1 hq hLq, List.map_set]
                  exact h1)
                have HP5 : Hid (s2.ents.Perm (L.set q (key, nn))) := Lib.hid (hp.trans (set_perm hq (key, nn)).symm)
                have HN5 : Hid ((L.set q (key, nn)).length = n) := Lib.hid (by rw [List.length_set]; exact HN.out.symm)
                have HLJ5 : Hid ((L.set q (key, nn)).length ≤ j + 1) := Lib.hid (by rw [List.length_set]; have := HLJ.out; omega)
                clear HLJ HMQ HM4 hp hr ht co0 co1 co2 hLq hpq
                rw [show atV (some q) = Value.int .i64 (q : Int) from rfl]
                go_wp2_with fail
                refine (len_any HM5.out.dk.at').mono ?_
                rintro e w' ⟨rfl, rfl⟩
                rw [show (St.n s2 : Int) = ((n : Nat) : Int) by rw [HM5.out.dk.cnt HP5.out, HN5.out]]
                go_wp2_with fail
                exact ⟨⟨j + 1, s2, (L.set q (key, nn)), HLT.out, by go_num, HM5, HP5, HLJ5⟩, by have := HLT.out; simp only [intOf]; omega⟩
            · have hb1 : ((kd : Int) == 1) = false := by rw [beq_eq_false_iff_ne]; omega
              by_cases hk2 : kd = 2
              · subst hk2
                go_wp2_with fail
                refine (delete_dk HMQ.out.dk key HK.out HSN.out).mono ?_
                rintro e w5 ⟨s2, _, _, hr, _, ht⟩
                have HM4 := Lib.hid (HMQ.out.dict ht)
                cases at' with
                | none =>
                  obtain ⟨rfl, hp⟩ := hr.no HP.out HAT2.out.none
                  have HM5 := HM4
                  have HP5 := Lib.hid hp
                  have HN5 : Hid (L.length = n) := Lib.hid HN.out.symm
                  have HLJ5 : Hid (L.length ≤ j + 1) := Lib.hid (by have := HLJ.out; omega)
                  clear HLJ HMQ HM4 hp hr ht co0 co1 co2
                  rw [show atV none = Value.int .i64 (-1) from rfl]
                  go_wp2_with fail
                  refine (len_any HM5.out.dk.at').mono ?_
                  rintro e w' ⟨rfl, rfl⟩
                  rw [show (St.n s2 : Int) = ((n : Nat) : Int) by rw [HM5.out.dk.cnt HP5.out, HN5.out]]
                  go_wp2_with fail
                  exact ⟨⟨j + 1, s2, L, HLT.out, by go_num, HM5, HP5, HLJ5⟩, by have := HLT.out; simp only [intOf]; omega⟩
                | some q =>
                  obtain ⟨hq, v, hLq, hpq⟩ := HAT2.out.get
                  obtain ⟨rfl, hp⟩ := hr.yes (HP.out.trans hpq) HMQ.out.dk.inv.nd
                  obtain ⟨m, hm⟩ : ∃ m, n = m + 1 := ⟨n - 1, by have := HN.out; omega⟩
                  subst hm
                  have hml : m < L.length := by have := HN.out; omega
                  obtain ⟨-, g6, hA6, hc6q, hf6⟩ := row_key HM4.out.krow hq
                  subst hA6
                  obtain ⟨-, g6', hA6', hc6m, -⟩ := row_key HM4.out.krow hml
                  have e6 : g6' = g6 := by cases hA6'; rfl
                  subst e6
                  obtain ⟨-, g7, hA7, hc7q, hf7⟩ := row_val HM4.out.vrow hq
                  subst hA7
                  obtain ⟨-, g7', hA7', hc7m, -⟩ := row_val HM4.out.vrow hml
                  have e7 : g7' = g7 := by cases hA7'; rfl
                  subst e7
                  have hne : g6' ≠ g7' := fun e => HM4.out.ne g6' rfl (by rw [e]; rfl)
                  have hcap6 : m + 1 ≤ c6 := (row_cap HM4.out.krow).1
                  have hcap7 : m + 1 ≤ c7 := (row_cap HM4.out.vrow).1
                  have hcm6 : c6 ≤ 9223372036854775807 := (row_cap HM4.out.krow).2
                  have hcm7 : c7 ≤ 9223372036854775807 := (row_cap HM4.out.vrow).2
                  obtain ⟨y, hy⟩ : ∃ y, y = (L[m]).1 := ⟨_, rfl⟩
                  obtain ⟨u, hu⟩ : ∃ u, u = (L[m]).2 := ⟨_, rfl⟩
                  rw [← hy] at hc6m
                  rw [← hu] at hc7m
                  have hqI : (q : Int) < ((m + 1 : Nat) : Int) := by have := HN.out; omega
                  have hq0 : ¬ ((q : Int) < 0) := by omega
                  have HM5 : Hid (Mp w ((w5.setCell ⟨g6', q, none⟩ (.string y)).setCell ⟨g7', q, none⟩ (.int .i64 u)) d s2 (.slice (some ⟨g6', 0, none⟩) m c6) (.slice (some ⟨g7', 0, none⟩) m c7) (((L.set q L[m]).take m).map (·.1)) (((L.set q L[m]).take m).map (·.2))) := Lib.hid (by
                    have hlq : q < m + 1 := by have := HN.out; omega
                    have h1 := ((HM4.out.setK (x := y) (by rw [List.length_map]; exact HN.out) hlq).setV (x := u) (by rw [List.length_map]; exact HN.out) hlq).takeK (m := m) (by rw [List.length_set, List.length_map]; exact HN.out) rfl
                    have h2 := h1.takeV (m := m) (by rw [List.length_set, List.length_map]; exact HN.out) rfl
                    rw [List.map_take, List.map_set, List.map_take, List.map_set, ← hy, ← hu]
                    exact h2)
                  have HP5 : Hid (s2.ents.Perm ((L.set q L[m]).take m)) := Lib.hid (by
                    have e8 : L.length - 1 = m := by have := HN.out; omega
                    have h1 := drop_perm hq
                    simp only [e8] at h1
                    exact hp.trans h1.symm)
                  have HN5 : Hid (((L.set q L[m]).take m).length = m) := Lib.hid (by rw [List.length_take, List.length_set]; omega)
                  have HLJ5 : Hid (((L.set q L[m]).take m).length ≤ j + 1) := Lib.hid (by rw [HN5.out]; have := HLJ.out; omega)
                  have e1 : ((m + 1 : Nat) : Int) - 1 = (m : Int) := by omega
                  clear HLJ HMQ HM4 hp hr ht co0 co1 co2 hy hu hLq hpq hA6' hA7'
                  rw [show atV (some q) = Value.int .i64 (q : Int) from rfl]
                  go_wp2_with fail
                  refine (len_any HM5.out.dk.at').mono ?_
                  rintro e w' ⟨rfl, rfl⟩
                  rw [show (St.n s2 : Int) = ((m : Nat) : Int) by rw [HM5.out.dk.cnt HP5.out, HN5.out]]
                  go_wp2_with fail
                  exact ⟨⟨j + 1, s2, ((L.set q L[m]).take m), HLT.out, by go_num, HM5, HP5, HLJ5⟩, by have := HLT.out; simp only [intOf]; omega⟩
              · have hb2 : ((kd : Int) == 2) = false := by rw [beq_eq_false_iff_ne]; omega
                by_cases hk3 : kd = 3
                · subst hk3
                  go_wp2_with fail
                  refine (step_dk HMQ.out.dk nn HNB.out).mono ?_
                  rintro e w5 ⟨rfl, s2, _, _, hp, _, _, _, ht⟩
                  have HM5 := Lib.hid (HMQ.out.dict ht)
                  have HP5 := Lib.hid (hp.trans HP.out)
                  have HN5 : Hid (L.length = n) := Lib.hid HN.out.symm
                  have HLJ5 : Hid (L.length ≤ j + 1) := Lib.hid (by have := HLJ.out; omega)
                  clear HLJ HMQ hp ht co0 co1 co2
                  go_wp2_with fail
                  refine (len_any HM5.out.dk.at').mono ?_
                  rintro e w' ⟨rfl, rfl⟩
                  rw [show (St.n s2 : Int) = ((n : Nat) : Int) by rw [HM5.out.dk.cnt HP5.out, HN5.out]]
                  go_wp2_with fail
                  exact ⟨⟨j + 1, s2, L, HLT.out, by go_num, HM5, HP5, HLJ5⟩, by have := HLT.out; simp only [intOf]; omega⟩
                · have hb3 : ((kd : Int) == 3) = false := by rw [beq_eq_false_iff_ne]; omega
                  have HM5 := HMQ
                  have HP5 := HP
                  have HN5 : Hid (L.length = n) := Lib.hid HN.out.symm
                  have HLJ5 : Hid (L.length ≤ j + 1) := Lib.hid (by have := HLJ.out; omega)
                  clear HLJ HMQ
                  go_wp2_with fail
                  refine (len_any HM5.out.dk.at').mono ?_
                  rintro e w' ⟨rfl, rfl⟩
                  rw [show (St.n s1 : Int) = ((n : Nat) : Int) by rw [HM5.out.dk.cnt HP5.out, HN5.out]]
                  go_wp2_with fail
                  exact ⟨⟨j + 1, s1, L, HLT.out, by go_num, HM5, HP5, HLJ5⟩, by have := HLT.out; simp only [intOf]; omega⟩
      · have hltI : ¬ ((j : Int) < (ts.length : Int)) := by omega
        clear hlt
        go_wp2_with fail
        obtain ⟨A6, c6, h6, _⟩ := row_slice HM.out.krow
        obtain ⟨A7, c7, h7, _⟩ := row_slice HM.out.vrow
        obtain ⟨n, hn⟩ : ∃ n, n = L.length := ⟨_, rfl⟩
        rw [List.length_map, ← hn] at h6 h7
        subst h6 h7
        have HN := Lib.hid hn
        have hn8 : n ≤ 800 := by rw [hn]; have h1 := HLJ.out; have h3 := HLEN.out; omega
        clear hn HLJ
        go_loopw [12] (fun i wq => ∃ k : Nat, k ≤ n ∧ i = .int .i64 (k : Int) ∧ Hid (Mp w wq d s1 (.slice A6 n c6) (.slice A7 n c7) (L.map (·.1)) (L.map (·.2)))) (fun i _ => n - (intOf i).toNat)
        case atStart => exact ⟨0, Nat.zero_le _, rfl, HM⟩
        case round =>
          obtain ⟨k, hk, rfl, HMK⟩ := hrel
          clear HM
          by_cases hkn : k < n
          · have hkl : k < L.length := by rw [← HN.out]; exact hkn
            obtain ⟨-, g6, hA6, hc6, -⟩ := row_key HMK.out.krow hkl
            subst hA6
            obtain ⟨-, g7, hA7, hc7, -⟩ := row_val HMK.out.vrow hkl
            subst hA7
            obtain ⟨⟨key, v⟩, hy⟩ : ∃ y, y = L[k] := ⟨_, rfl⟩
            rw [← hy] at hc6 hc7
            have hme : (key, v) ∈ s1.ents := HP.out.mem_iff.2 (by rw [hy]; exact List.getElem_mem hkl)
            have HKS : Hid (key.size ≤ 140737488351232) := Lib.hid (by
              have h1 := HMK.out.dk.inv
              rcases List.mem_append.1 (show (key, v) ∈ flat s1.p0 ++ flat1 s1.t1 from hme) with h2 | h2
              · obtain ⟨i, b, l, h3, h4⟩ := mem_flat.1 h2
                exact (h1.t0 i b l h3 _ h4).2
              · cases ht : s1.t1 with
                | none => rw [ht] at h2; cases h2
                | some x =>
                  rw [ht] at h2
                  obtain ⟨i, b, l, h3, h4⟩ := mem_flat.1 (show (key, v) ∈ flat x.2 from h2)
                  exact (h1.t1 x ht i b l h3 _ h4).2)
            have HME := Lib.hid hme
            have hkI : (k : Int) < (n : Int) := by omega
            have HKN := Lib.hid hkn
            have HGT := Lib.hid (get_any HMK.out.dk.at' HMK.out.dk.inv key HKS.out)
            have HC7 : Hid (∀ w', Below wr.heap.size wr w' → w'.cell? ⟨g7, k, none⟩ = some (.int .i64 v)) := Lib.hid (fun w' hb => (hb.cell (p := ⟨g7, k, none⟩) (World.block_lt_of_cell? _ _ hc7)).trans hc7)
            clear hy hme hkn
            go_wp2_with fail
            refine HGT.out.mono ?_
            rintro e w5 ⟨hg, hb⟩
            obtain rfl := GetR.yes hg HME.out HMK.out.dk.inv.nd
            have hc75 := HC7.out w5 hb
            have HM5 := Lib.hid (HMK.out.below hb)
            clear hg hb HGT hc7
            go_wp2_with fail
            exact ⟨⟨k + 1, HKN.out, by go_num, HM5⟩, by have := HKN.out; simp only [intOf]; omega⟩
          · have hkI : ¬ ((k : Int) < (n : Int)) := by omega
            clear hkn
            have HKY := Lib.hid (keys_any HMK.out.dk.at' HMK.out.dk.inv (by rw [HMK.out.dk.cnt HP.out, ← HN.out]; omega))
            go_wp2_with fail
            refine HKY.out.mono ?_
            rintro e w5 ⟨lv, Lk, rfl, hpk, hsk, hrow, hb⟩
            have HM5 := Lib.hid (HMK.out.below hb)
            have HLR := Lib.hid hrow
            have hll : Lk.length = n := by rw [hpk.length_eq, List.length_map, HP.out.length_eq, HN.out]
            have hndk : Lk.Nodup := hpk.nodup_iff.2 HMK.out.dk.inv.nd
            have HSRT : Hid (∀ i (h : i + 1 < Lk.length), Op.bytesLess (Lk[i]'(by omega)).toList (Lk[i + 1]).toList = true) := Lib.hid (fun i h => by
              have h1 := List.pairwise_iff_getElem.1 hsk i (i + 1) (by omega) h (by omega)
              have h2 : Lk[i]'(by omega) ≠ Lk[i + 1] := fun e => List.pairwise_iff_getElem.1 hndk i (i + 1) (by omega) h (by omega) e
              rw [bytesLess_eq, ByteArray.toList_eq, ByteArray.toList_eq]
              refine decide_eq_true ?_
              rcases List.le_iff_lt_or_eq.1 h1 with h3 | h3
              · exact h3
              · refine absurd ?_ h2
                exact (txt_eq _ _).1 (by rw [beq_iff_eq, ByteArray.toList_eq, ByteArray.toList_eq]; exact h3))
            have HMEM : Hid (∀ k ∈ Lk, k ∈ L.map (·.1)) := Lib.hid (fun k hk => ((HP.out.map (·.1)).mem_iff).1 (hpk.mem_iff.1 hk))
            obtain ⟨A8, c8, h8, _⟩ := row_slice hrow
            rw [hll] at h8
            subst h8
            have HLL := Lib.hid hll
            have HTX := Lib.hid (DictIsMap.row_txt hrow)
            clear hpk hsk hrow hb hll hndk HKY
            go_wp2_with fail
            go_loopw [16] (fun i wq => ∃ k : Nat, k ≤ n ∧ i = .int .i64 (k : Int) ∧ Hid (Below w5.heap.size w5 wq)) (fun i _ => n - (intOf i).toNat)
            case atStart => exact ⟨0, Nat.zero_le _, rfl, Lib.hid (Below.refl _ _)⟩
            case round =>
              clear hkI hk
              obtain ⟨k, hk, rfl, HBK⟩ := hrel
              by_cases hkn : k < n
              · have hkl : k < Lk.length := by rw [HLL.out]; exact hkn
                have hrow6 := (Frm.of_below (own := fun _ => False) HBK.out).row HLR.out (fun _ _ z => z)
                obtain ⟨g8, o8, hA8, hc8⟩ := row_txt hrow6 k hkl
                subst hA8
                obtain ⟨x, hx⟩ : ∃ x, x = Lk[k] := ⟨_, rfl⟩
                rw [← hx] at hc8
                have HHS : Hid (∀ q, Calls Try.prog 14 #[.slice A6 n c6, .string x] (wr.drewN q) fun e w' => e = .returned (.bool true) ∧ wr.drewN q = w') := Lib.hid (fun q => by
                  have h1 := has_any (w := wr.drewN q) (A := A6) (c := c6) (L.map (·.1)) x (by rw [List.length_map, ← HN.out]; omega) (row_txt (by
                    have h2 := (Frm.of_below (own := fun _ => False) (below_drewN HBK.out q)).row HM5.out.krow (fun _ _ z => z)
                    exact h2))
                  rw [List.length_map, ← HN.out] at h1
                  refine h1.mono ?_
                  rintro e w' ⟨⟨b, rfl, hb⟩, h3⟩
                  have : b = true := hb.2 (HMEM.out x (by rw [hx]; exact List.getElem_mem hkl))
                  subst this
                  exact ⟨rfl, h3⟩)
                have hkI : (k : Int) < (n : Int) := by omega
                have HKN := Lib.hid hkn
                rcases Nat.eq_zero_or_pos k with h0 | h0
                · subst h0
                  have hgt : ¬ ((0 : Int) < 0) := by omega
                  rw [Nat.add_zero] at hc8
                  clear hx hrow6 hkn
                  go_wp2_with fail
                  refine wp_region_q [0,0,0,0,1,1,0,0,0,0,0,0,0,0,0,1,0,0,0,1,0,0,0] (by kernel_rfl) (by kernel_rfl) ?_
                  (refine q_pure_n rfl (fun K hK => ?_); go_simp; refine hK _ _ ?_; clear hK K)
                  (refine q_pure_n rfl (fun K hK => ?_); go_simp; refine hK _ _ ?_; clear hK K)
                  (refine q_pure_n rfl (fun K hK => ?_); go_simp; refine hK _ _ ?_; clear hK K)
                  (refine q_pure_n rfl (fun K hK => ?_); go_simp; refine hK _ _ ?_; clear hK K)
                  (refine q_read_n rfl (fun K hK => ?_); go_simp; refine hK _ _ ?_; clear hK K)
                  (refine q_read_n rfl (fun K hK => ?_); go_simp; apply Exists.intro; refine ⟨fun nw => ?_, hK _ _ ?_⟩; (exact read_same (HHS.out _)); clear hK K)
                  (refine q_pure_n rfl (fun K hK => ?_); go_simp; refine hK _ _ ?_; clear hK K)
                  (refine q_pure_n rfl (fun K hK => ?_); go_simp; refine hK _ _ ?_; clear hK K)
                  first | (refine q_pure_x rfl ?hy (fun K hK => ?_); (case hy => rfl); go_simp; refine hK _ _ ?_; clear hK K) | (refine q_pure_u rfl ?hy (fun K hK => ?_); (case hy => rfl); go_simp; refine hK _ _ ?_; clear hK K) | (refine q_pure_y rfl ?hy (fun K hK => ?_); (case hy => rfl); go_simp; refine hK _ _ ?_; clear hK K)
                  first | (refine q_pure_x rfl ?hy (fun K hK => ?_); (case hy => rfl); go_simp; refine hK _ _ ?_; clear hK K) | (refine q_pure_u rfl ?hy (fun K hK => ?_); (case hy => rfl); go_simp; refine hK _ _ ?_; clear hK K) | (refine q_pure_y rfl ?hy (fun K hK => ?_); (case hy => rfl); go_simp; refine hK _ _ ?_; clear hK K)
                  first | (refine q_pure_x rfl ?hy (fun K hK => ?_); (case hy => rfl); go_simp; refine hK _ _ ?_; clear hK K) | (refine q_pure_u rfl ?hy (fun K hK => ?_); (case hy => rfl); go_simp; refine hK _ _ ?_; clear hK K) | (refine q_pure_y rfl ?hy (fun K hK => ?_); (case hy => rfl); go_simp; refine hK _ _ ?_; clear hK K)
                  first | (refine q_pure_x rfl ?hy (fun K hK => ?_); (case hy => rfl); go_simp; refine hK _ _ ?_; clear hK K) | (refine q_pure_u rfl ?hy (fun K hK => ?_); (case hy => rfl); go_simp; refine hK _ _ ?_; clear hK K) | (refine q_pure_y rfl ?hy (fun K hK => ?_); (case hy => rfl); go_simp; refine hK _ _ ?_; clear hK K)
                  first | (refine q_pure_x rfl ?hy (fun K hK => ?_); (case hy => rfl); go_simp; refine hK _ _ ?_; clear hK K) | (refine q_pure_u rfl ?hy (fun K hK => ?_); (case hy => rfl); go_simp; refine hK _ _ ?_; clear hK K) | (refine q_pure_y rfl ?hy (fun K hK => ?_); (case hy => rfl); go_simp; refine hK _ _ ?_; clear hK K)
                  first | (refine q_pure_x rfl ?hy (fun K hK => ?_); (case hy => rfl); go_simp; refine hK _ _ ?_; clear hK K) | (refine q_pure_u rfl ?hy (fun K hK => ?_); (case hy => rfl); go_simp; refine hK _ _ ?_; clear hK K) | (refine q_pure_y rfl ?hy (fun K hK => ?_); (case hy => rfl); go_simp; refine hK _ _ ?_; clear hK K)
                  first | (refine q_pure_x rfl ?hy (fun K hK => ?_); (case hy => rfl); go_simp; refine hK _ _ ?_; clear hK K) | (refine q_pure_u rfl ?hy (fun K hK => ?_); (case hy => rfl); go_simp; refine hK _ _ ?_; clear hK K) | (refine q_pure_y rfl ?hy (fun K hK => ?_); (case hy => rfl); go_simp; refine hK _ _ ?_; clear hK K)
                  first | (refine q_read_x rfl ?hy (fun K hK => ?_); (case hy => rfl); go_simp; refine hK _ _ ?_; clear hK K) | (refine q_read_u rfl ?hy (fun K hK => ?_); (case hy => rfl); go_simp; refine hK _ _ ?_; clear hK K) | (refine q_read_y rfl ?hy (fun K hK => ?_); (case hy => rfl); go_simp; refine hK _ _ ?_; clear hK K)
                  first | (refine q_pure_x rfl ?hy (fun K hK => ?_); (case hy => rfl); go_simp; refine hK _ _ ?_; clear hK K) | (refine q_pure_u rfl ?hy (fun K hK => ?_); (case hy => rfl); go_simp; refine hK _ _ ?_; clear hK K) | (refine q_pure_y rfl ?hy (fun K hK => ?_); (case hy => rfl); go_simp; refine hK _ _ ?_; clear hK K)
                  first | (refine q_pure_x rfl ?hy (fun K hK => ?_); (case hy => rfl); go_simp; refine hK _ _ ?_; clear hK K) | (refine q_pure_u rfl ?hy (fun K hK => ?_); (case hy => rfl); go_simp; refine hK _ _ ?_; clear hK K) | (refine q_pure_y rfl ?hy (fun K hK => ?_); (case hy => rfl); go_simp; refine hK _ _ ?_; clear hK K)
                  first | (refine q_pure_x rfl ?hy (fun K hK => ?_); (case hy => rfl); go_simp; refine hK _ _ ?_; clear hK K) | (refine q_pure_u rfl ?hy (fun K hK => ?_); (case hy => rfl); go_simp; refine hK _ _ ?_; clear hK K) | (refine q_pure_y rfl ?hy (fun K hK => ?_); (case hy => rfl); go_simp; refine hK _ _ ?_; clear hK K)
                  first | (refine q_read_x rfl ?hy (fun K hK => ?_); (case hy => rfl); go_simp; refine hK _ _ ?_; clear hK K) | (refine q_read_u rfl ?hy (fun K hK => ?_); (case hy => rfl); go_simp; refine hK _ _ ?_; clear hK K) | (refine q_read_y rfl ?hy (fun K hK => ?_); (case hy => rfl); go_simp; refine hK _ _ ?_; clear hK K)
                  first | (refine q_pure_x rfl ?hy (fun K hK => ?_); (case hy => rfl); go_simp; refine hK _ _ ?_; clear hK K) | (refine q_pure_u rfl ?hy (fun K hK => ?_); (case hy => rfl); go_simp; refine hK _ _ ?_; clear hK K) | (refine q_pure_y rfl ?hy (fun K hK => ?_); (case hy => rfl); go_simp; refine hK _ _ ?_; clear hK K)
                  first | (refine q_pure_x rfl ?hy (fun K hK => ?_); (case hy => rfl); go_simp; refine hK _ _ ?_; clear hK K) | (refine q_pure_u rfl ?hy (fun K hK => ?_); (case hy => rfl); go_simp; refine hK _ _ ?_; clear hK K) | (refine q_pure_y rfl ?hy (fun K hK => ?_); (case hy => rfl); go_simp; refine hK _ _ ?_; clear hK K)
                  (refine q_pure_n rfl (fun K hK => ?_); go_simp; refine hK _ _ ?_; clear hK K)
                  refine q_nil ?_
                  intro nq
                  go_wp2_with fail
                  exact ⟨⟨1, HKN.out, by go_num, Lib.hid (below_drewN HBK.out _)⟩, by have := HKN.out; simp only [intOf]; omega⟩
                · obtain ⟨p, rfl⟩ : ∃ p, k = p + 1 := ⟨k - 1, by omega⟩
                  have hpl : p < Lk.length := by omega
                  obtain ⟨g9, o9, hA9, hc9⟩ := row_txt hrow6 p hpl
                  have e9 : g9 = g8 := by cases hA9; rfl
                  have e8 : o9 = o8 := by cases hA9; rfl
                  subst e9 e8
                  have hlt := HSRT.out p hkl
                  rw [← hx] at hlt
                  obtain ⟨y, hy⟩ : ∃ y, y = Lk[p] := ⟨_, rfl⟩
                  rw [← hy] at hc9 hlt
                  have hge : (!Op.bytesLess y.toList x.toList) = false := by rw [hlt]; rfl
                  have hpI : ((p + 1 : Nat) : Int) - 1 = (p : Int) := by omega
                  have hp0 : (0 : Int) < ((p + 1 : Nat) : Int) := by omega
                  have hpb : (p : Int) < (n : Int) := by omega
                  have hpp : (0 : Int) ≤ (p : Int) + 1 := by omega
                  have hwp : IntKind.i64.wrap (p : Int) = (p : Int) := by rw [IntKind.wrap_i64]; omega
                  clear hx hy hrow6 hkn hA9 h0
                  go_wp2_with fail
                  refine wp_region_q [0,0,0,0,1,1,0,0,0,0,0,0,0,0,0,1,0,0,0,1,0,0,0] (by kernel_rfl) (by kernel_rfl) ?_
                  (refine q_pure_n rfl (fun K hK => ?_); go_simp; refine hK _ _ ?_; clear hK K)
                  (refine q_pure_n rfl (fun K hK => ?_); go_simp; refine hK _ _ ?_; clear hK K)
                  (refine q_pure_n rfl (fun K hK => ?_); go_simp; refine hK _ _ ?_; clear hK K)
                  (refine q_pure_n rfl (fun K hK => ?_); go_simp; refine hK _ _ ?_; clear hK K)
                  (refine q_read_n rfl (fun K hK => ?_); go_simp; refine hK _ _ ?_; clear hK K)
                  (refine q_read_n rfl (fun K hK => ?_); go_simp; apply Exists.intro; refine ⟨fun nw => ?_, hK _ _ ?_⟩; (exact read_same (HHS.out _)); clear hK K)
                  (refine q_pure_n rfl (fun K hK => ?_); go_simp; refine hK _ _ ?_; clear hK K)
                  (refine q_pure_n rfl (fun K hK => ?_); go_simp; refine hK _ _ ?_; clear hK K)
                  first | (refine q_pure_x rfl ?hy (fun K hK => ?_); (case hy => rfl); go_simp; refine hK _ _ ?_; clear hK K) | (refine q_pure_u rfl ?hy (fun K hK => ?_); (case hy => rfl); go_simp; refine hK _ _ ?_; clear hK K) | (refine q_pure_y rfl ?hy (fun K hK => ?_); (case hy => rfl); go_simp; refine hK _ _ ?_; clear hK K)
                  first | (refine q_pure_x rfl ?hy (fun K hK => ?_); (case hy => rfl); go_simp; refine hK _ _ ?_; clear hK K) | (refine q_pure_u rfl ?hy (fun K hK => ?_); (case hy => rfl); go_simp; refine hK _ _ ?_; clear hK K) | (refine q_pure_y rfl ?hy (fun K hK => ?_); (case hy => rfl); go_simp; refine hK _ _ ?_; clear hK K)
                  first | (refine q_pure_x rfl ?hy (fun K hK => ?_); (case hy => rfl); go_simp; refine hK _ _ ?_; clear hK K) | (refine q_pure_u rfl ?hy (fun K hK => ?_); (case hy => rfl); go_simp; refine hK _ _ ?_; clear hK K) | (refine q_pure_y rfl ?hy (fun K hK => ?_); (case hy => rfl); go_simp; refine hK _ _ ?_; clear hK K)
                  first | (refine q_pure_x rfl ?hy (fun K hK => ?_); (case hy => rfl); go_simp; refine hK _ _ ?_; clear hK K) | (refine q_pure_u rfl ?hy (fun K hK => ?_); (case hy => rfl); go_simp; refine hK _ _ ?_; clear hK K) | (refine q_pure_y rfl ?hy (fun K hK => ?_); (case hy => rfl); go_simp; refine hK _ _ ?_; clear hK K)
                  first | (refine q_pure_x rfl ?hy (fun K hK => ?_); (case hy => rfl); go_simp; refine hK _ _ ?_; clear hK K) | (refine q_pure_u rfl ?hy (fun K hK => ?_); (case hy => rfl); go_simp; refine hK _ _ ?_; clear hK K) | (refine q_pure_y rfl ?hy (fun K hK => ?_); (case hy => rfl); go_simp; refine hK _ _ ?_; clear hK K)
                  first | (refine q_pure_x rfl ?hy (fun K hK => ?_); (case hy => rfl); go_simp; refine hK _ _ ?_; clear hK K) | (refine q_pure_u rfl ?hy (fun K hK => ?_); (case hy => rfl); go_simp; refine hK _ _ ?_; clear hK K) | (refine q_pure_y rfl ?hy (fun K hK => ?_); (case hy => rfl); go_simp; refine hK _ _ ?_; clear hK K)
                  first | (refine q_pure_x rfl ?hy (fun K hK => ?_); (case hy => rfl); go_simp; refine hK _ _ ?_; clear hK K) | (refine q_pure_u rfl ?hy (fun K hK => ?_); (case hy => rfl); go_simp; refine hK _ _ ?_; clear hK K) | (refine q_pure_y rfl ?hy (fun K hK => ?_); (case hy => rfl); go_simp; refine hK _ _ ?_; clear hK K)
                  first | (refine q_read_x rfl ?hy (fun K hK => ?_); (case hy => rfl); go_simp; refine hK _ _ ?_; clear hK K) | (refine q_read_u rfl ?hy (fun K hK => ?_); (case hy => rfl); go_simp; refine hK _ _ ?_; clear hK K) | (refine q_read_y rfl ?hy (fun K hK => ?_); (case hy => rfl); go_simp; refine hK _ _ ?_; clear hK K)
                  first | (refine q_pure_x rfl ?hy (fun K hK => ?_); (case hy => rfl); go_simp; refine hK _ _ ?_; clear hK K) | (refine q_pure_u rfl ?hy (fun K hK => ?_); (case hy => rfl); go_simp; refine hK _ _ ?_; clear hK K) | (refine q_pure_y rfl ?hy (fun K hK => ?_); (case hy => rfl); go_simp; refine hK _ _ ?_; clear hK K)
                  first | (refine q_pure_x rfl ?hy (fun K hK => ?_); (case hy => rfl); go_simp; refine hK _ _ ?_; clear hK K) | (refine q_pure_u rfl ?hy (fun K hK => ?_); (case hy => rfl); go_simp; refine hK _ _ ?_; clear hK K) | (refine q_pure_y rfl ?hy (fun K hK => ?_); (case hy => rfl); go_simp; refine hK _ _ ?_; clear hK K)
                  first | (refine q_pure_x rfl ?hy (fun K hK => ?_); (case hy => rfl); go_simp; refine hK _ _ ?_; clear hK K) | (refine q_pure_u rfl ?hy (fun K hK => ?_); (case hy => rfl); go_simp; refine hK _ _ ?_; clear hK K) | (refine q_pure_y rfl ?hy (fun K hK => ?_); (case hy => rfl); go_simp; refine hK _ _ ?_; clear hK K)
                  first | (refine q_read_x rfl ?hy (fun K hK => ?_); (case hy => rfl); go_simp; refine hK _ _ ?_; clear hK K) | (refine q_read_u rfl ?hy (fun K hK => ?_); (case hy => rfl); go_simp; refine hK _ _ ?_; clear hK K) | (refine q_read_y rfl ?hy (fun K hK => ?_); (case hy => rfl); go_simp; refine hK _ _ ?_; clear hK K)
                  first | (refine q_pure_x rfl ?hy (fun K hK => ?_); (case hy => rfl); go_simp; refine hK _ _ ?_; clear hK K) | (refine q_pure_u rfl ?hy (fun K hK => ?_); (case hy => rfl); go_simp; refine hK _ _ ?_; clear hK K) | (refine q_pure_y rfl ?hy (fun K hK => ?_); (case hy => rfl); go_simp; refine hK _ _ ?_; clear hK K)
                  first | (refine q_pure_x rfl ?hy (fun K hK => ?_); (case hy => rfl); go_simp; refine hK _ _ ?_; clear hK K) | (refine q_pure_u rfl ?hy (fun K hK => ?_); (case hy => rfl); go_simp; refine hK _ _ ?_; clear hK K) | (refine q_pure_y rfl ?hy (fun K hK => ?_); (case hy => rfl); go_simp; refine hK _ _ ?_; clear hK K)
                  (refine q_pure_n rfl (fun K hK => ?_); go_simp; refine hK _ _ ?_; clear hK K)
                  refine q_nil ?_
                  intro nq
                  go_wp2_with fail
                  exact ⟨⟨p + 1 + 1, HKN.out, by go_num, Lib.hid (below_drewN HBK.out _)⟩, by have := HKN.out; simp only [intOf]; omega⟩
              · have hkI : ¬ ((k : Int) < (n : Int)) := by omega
                clear hkn
                go_wp2_with fail
                go_ret
                exact ⟨rfl, HM5.out.bel.trans (HBK.out.mono HM5.out.dk.bnd)⟩
end Go.Proofs.Ytnoalklbgncajaa.DictIsMap
