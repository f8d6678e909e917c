/- Chapter 07: Keys walked. -/
import Derived.Test.YtnoalklbgncajaaDoorDsc07
namespace Go.Proofs.YtnoalklbgncajaaDoor.Dct
open Go Go.MapKept Go.RowKit Go.Proofs.YtnoalklbgncajaaDoor.Pin Go.Proofs.YtnoalklbgncajaaDoor.Mps Go.Proofs.YtnoalklbgncajaaDoor.Bok Go.Proofs.YtnoalklbgncajaaDoor.Uw Go.Proofs.YtnoalklbgncajaaDoor.Sip
attribute [local go_sem high] eql_tab
attribute [local go_sem high] run_store_U cells_U eqGuard_U asIntOf_U
attribute [local go_sem high] eql_map neq_map
/-- a row of texts of the call's own, in a slot -/
structure RowK (w wr : World) (out : Value) (L : List ByteArray) : Prop where
  row : wr.ownsRow w.heap.size 9 1 out L.length (L.map Value.string)
  below : Below w.heap.size w wr
theorem RowK.push {w wr w5 : World} {out v5 : Value} {L : List ByteArray} {x : ByteArray} {o : Obj} (h : RowK w wr out L) (hown : w5.ownsRow w.heap.size 9 1 v5 (L.length + 1) (L.map Value.string ++ [.string x]))
    (hgr : (v5.ownBlock = out.ownBlock ∧ (wr.alloc o).grownBy w5 out.ownBlock) ∨ (∃ r, v5.ownBlock = some r ∧ (wr.alloc o).heap.size ≤ r) ∧ (wr.alloc o).grownBy w5 none) :
    RowK w w5 v5 (L ++ [x]) ∧ Frm (fun b => out.ownBlock = some b) wr w5 ∧ ∀ b, v5.ownBlock = some b → out.ownBlock = some b ∨ wr.heap.size ≤ b := by
  have hF : Frm (fun b => out.ownBlock = some b) wr w5 := by
    have h0 : Frm (fun b => out.ownBlock = some b) wr (wr.alloc o) := (Frm.refl wr).alloc o
    rcases hgr with ⟨_, k⟩ | ⟨_, k⟩
    · exact h0.grown k (fun b hb _ => hb)
    · exact h0.grown k (fun b hb _ => by cases hb)
  refine ⟨⟨by rw [List.length_append, List.map_append]; exact hown, h.below.trans ⟨hF.os, hF.tape, hF.output, hF.size, fun k hk => hF.block k (Nat.lt_of_lt_of_le hk h.below.size) (fun e => by have := (h.row.lt k e).1; omega)⟩⟩, hF, fun b hb => ?_⟩
  rcases hgr with ⟨k, _⟩ | ⟨⟨r, k, hr⟩, _⟩
  · exact .inl (by rw [← k]; exact hb)
  · rw [k] at hb
    injection hb with hb
    refine .inr ?_
    have : (wr.alloc o).heap.size = wr.heap.size + 1 := by simp
    omega
theorem flat_take (ps : List Pl) (k : Nat) (z : Pl) (hz : ps[k]? = some z) : flat (ps.take (k + 1)) = flat (ps.take k) ++ plE z := by
  have hk := (List.getElem?_eq_some_iff.1 hz).1
  have e : ps[k] = z := (List.getElem?_eq_some_iff.1 hz).2
  rw [List.take_succ_eq_append_getElem hk, e]
  unfold flat
  rw [List.flatMap_append]
  simp
theorem flat_take_le (ps : List Pl) (k : Nat) : (flat (ps.take k)).length ≤ (flat ps).length := by
  have h : flat ps = flat (ps.take k) ++ flat (ps.drop k) := by
    unfold flat
    rw [← List.flatMap_append, List.take_append_drop]
  rw [h, List.length_append]
  omega
set_option maxHeartbeats 4000000 in
set_option maxRecDepth 100000 in
theorem keys_any {w : World} {d : Nat} {s : St} (h : DAt w d s) (hI : Inv s) (hn : s.n ≤ 274877906944) :
    Calls Tryd.prog 10 #[.pointer (some ⟨d, 0, none⟩)] w fun e w' => ∃ (kv : Value) (L : List ByteArray), e = .returned kv ∧ L.Perm (s.ents.map (·.1)) ∧ L.Pairwise (fun x y => x.data.toList ≤ y.data.toList) ∧ w'.ownsRow w.heap.size 9 1 kv L.length (L.map Value.string) ∧ Below w.heap.size w w' := by
  obtain ⟨i0, hi, hz0, hz1, hz2⟩ := info_parts sinfo
  have HI := Lib.hid hi
  have HZ0 := Lib.hid hz0
  have HZ1 := Lib.hid hz1
  have HZ2 := Lib.hid hz2
  clear hi hz0 hz1 hz2
  have HD := Lib.hid h
  have HEN : Hid (s.ents.length ≤ 274877906944) := Lib.hid (by rw [← hI.cnt]; exact hn)
  have HG := Lib.hid (gone_no h)
  have c1 : w.cell? ⟨d, 1, none⟩ = some (.slice (some ⟨s.a0, 0, none⟩) s.p0.length s.p0.length) := by rw [Lib.cell_of_heap h.top]; rfl
  have c2 : w.cell? ⟨d, 2, none⟩ = some (t1V s.t1) := by rw [Lib.cell_of_heap h.top]; rfl
  have HR0 : Hid (RowK w w (.slice none 0 0) []) := Lib.hid ⟨World.ownsRow_nil _ _ _ _, Below.refl _ _⟩
  clear h hI hn
  go_enter Tryd.func10, Tryd.ntmps10
  go_wp2_with fail
  refine HG.out.mono ?_
  rintro e w' ⟨rfl, rfl⟩
  clear HG
  go_wp2_with fail
  go_loopw [3, 15] (fun out i wr => ∃ (j : Nat) (L : List ByteArray) , j ≤ 2 ∧ i = .int .i64 (j : Int) ∧ Hid (RowK w wr out L ∧ (j = 0 → L = []) ∧ (j = 1 → L.Perm ((flat s.p0).map (·.1))) ∧ (j = 2 → L.Perm (s.ents.map (·.1))))) (fun _ i _ => 2 - (intOf i).toNat)
  case atStart => exact ⟨0, [], by omega, rfl, Lib.hid ⟨HR0.out, fun _ => rfl, fun e => by omega, fun e => by omega⟩⟩
  case round =>
    obtain ⟨j, L0, hj, rfl, HR⟩ := hrel
    clear HR0
    obtain rfl | rfl | rfl : j = 0 ∨ j = 1 ∨ j = 2 := by omega
    · have HB0 : Hid (L0.length ≤ 274877906944) := Lib.hid (by rw [HR.out.2.1 (by trivial)]; simp)
      have HBP : Hid ((flat s.p0).length ≤ 274877906944) := Lib.hid (by have := HEN.out; unfold St.ents at this; rw [List.length_append] at this; omega)
      have hix := @idx0
      have hz0 : (0 : Int) < 2 := by omega
      have hpl : (s.p0).length ≤ 1099511627776 := HD.out.len0.2
      go_wp2_with fail
      go_loopw [3, 20] (fun out k wr => ∃ (kk : Nat) (L : List ByteArray), kk ≤ (s.p0).length ∧ k = .int .i64 (kk : Int) ∧ Hid (RowK w wr out L ∧ L.Perm (L0 ++ (flat ((s.p0).take kk)).map (·.1)))) (fun _ k _ => (s.p0).length - (intOf k).toNat)
      case atStart => exact ⟨0, L0, Nat.zero_le _, rfl, Lib.hid ⟨HR.out.1, by simp [flat]⟩⟩
      case round =>
        obtain ⟨kk, L1, hkk, rfl, HR1⟩ := hrel
        have HKK := Lib.hid hkk
        by_cases hlt : kk < (s.p0).length
        · have HLT := Lib.hid hlt
          obtain ⟨z, hz⟩ : ∃ z, (s.p0)[kk]? = some z := ⟨_, List.getElem?_eq_getElem hlt⟩
          have HFT := Lib.hid (flat_take _ _ _ hz)
          have HLEN : Hid (L1.length + (plE z).length ≤ 824633720832) := Lib.hid (by
            have h1 := HR1.out.2.length_eq
            have h2 := flat_take_le (s.p0) (kk + 1)
            have h3 := HB0.out
            have h4 := HBP.out
            rw [HFT.out, List.length_append] at h2
            rw [List.length_append, List.length_map] at h1
            omega)
          have hDW : DAt wr d s := HD.out.below HR1.out.1.below
          have hTW : TabAt wr s.a0 (s.p0) := hDW.tab0
          have hcell : wr.cell? ⟨s.a0, kk, none⟩ = some (.map (plM z)) := by
            rw [Lib.cell_of_heap hTW.row]
            simp [hz, plV_eq]
          have hltI : (kk : Int) < ((s.p0).length : Int) := by omega
          have HMO := Lib.hid (hTW.mapO hz)
          have HMB : Hid (∀ M, plM z = some M → M < w.heap.size) := Lib.hid (fun M e => by
            cases z with
            | none => cases e
            | some y =>
              have e : some y.1 = some M := e
              injection e with e
              rw [← e]
              exact HD.out.own_lt y.1 (by have := blks_mem (l := y.2) (List.mem_of_getElem? hz); simp [St.own, this]))
          have HRL := Lib.hid HR1.out.1.row.lt
          clear hDW hTW hz hlt hkk
          go_wp2_with (at_range; refine wpList_range_s _ rfl _ _ _ _ rfl Tryd.underlying52 (plM z) (mapE (plE z)) rfl HMO.out ?_)
          intro w1 hit o hw1
          obtain ⟨r, hr⟩ : ∃ r, r = wr.heap.size := ⟨_, rfl⟩
          rw [← hr] at hit ⊢
          have hB1 : Below wr.heap.size wr w1 := by rw [hw1]; exact (Below.refl _ _).alloc (Nat.le_refl _) o
          have HIT := Lib.hid hit
          have HR2 : Hid (RowK w w1 u3 L1 ∧ ∀ q, u3.ownBlock = some q → q ≠ r) := Lib.hid ⟨⟨(Frm.of_below (own := fun _ => False) hB1).row HR1.out.1.row (fun _ _ k => k), HR1.out.1.below.trans (hB1.mono HR1.out.1.below.size)⟩, fun q hq => by have := (HRL.out q hq).2; omega⟩
          have HRW : Hid (w.heap.size ≤ r) := Lib.hid (by rw [hr]; exact HR1.out.1.below.size)
          clear hit hw1 hr hcell hB1
          go_wp2_with fail
          go_loopg [3, 8] (mapE (plE z)).length (fun g out _ wq => ∃ (done : List ByteArray) (rest : KV), g = rest.length ∧ Hid (RowK w wq out (L1 ++ done) ∧ IterAt wq r (plM z) (mapE (plE z)) rest ∧ (done ++ rest.map (·.1)).Perm ((plE z).map (·.1)) ∧ ∀ q, out.ownBlock = some q → q ≠ r))
          case atStart => exact ⟨[], _, rfl, Lib.hid ⟨by rw [List.append_nil]; exact HR2.out.1, HIT.out, by unfold mapE; rw [List.map_map]; exact List.Perm.refl _, HR2.out.2⟩⟩
          case round =>
            obtain ⟨done, rest, hgk, HQ⟩ := hrel
            have HGK := Lib.hid hgk
            clear hgk HIT HR2 HMO
            iterate 2 (first | go_values | go_skip | go_guarded | go_step)
            refine wpList_next_s _ rfl _ rfl r (plM z) (mapE (plE z)) rest rfl HQ.out.2.1 ?_ ?_
            · intro hdone
              have HDN := Lib.hid hdone
              have HE : Hid ((L1 ++ done).Perm (L0 ++ (flat ((s.p0).take (kk + 1))).map (·.1))) := Lib.hid (by
                have h1 := HQ.out.2.2.1
                rw [HDN.out] at h1
                rw [HFT.out, List.map_append, ← List.append_assoc]
                exact HR1.out.2.append (by simpa using h1))
              clear hdone
              go_wp2_with fail
              refine ⟨⟨kk + 1, L1 ++ done, HLT.out, by go_num, Lib.hid ⟨HQ.out.1, HE.out⟩⟩, ?_⟩
              have := HLT.out
              simp only [intOf]; omega
            · rintro ⟨k, vv⟩ rest' wn hp hmem hit hf hen
              have HXN : Hid (RowK w wn u3 (L1 ++ done)) := Lib.hid ⟨hf.row HQ.out.1.row (fun q hq => HQ.out.2.2.2 q hq), HQ.out.1.below.trans ⟨hf.os, hf.tape, hf.output, hf.size, fun q hq => hf.block q (Nat.lt_of_lt_of_le hq HQ.out.1.below.size) (by have := HRW.out; omega)⟩⟩
              have HPE : Hid ((done ++ [k] ++ rest'.map (·.1)).Perm ((plE z).map (·.1)) ∧ rest'.length < gk ∧ done.length < (plE z).length) := Lib.hid (by
                have h1 := HQ.out.2.2.1
                have h2 := hp.map (·.1)
                have h3 : (done ++ [k] ++ rest'.map (·.1)).Perm ((plE z).map (·.1)) := by
                  refine List.Perm.trans ?_ h1
                  rw [List.append_assoc]
                  exact (h2.symm).append_left done
                refine ⟨h3, by have := hp.length_eq; rw [HGK.out]; simp at this; omega, ?_⟩
                have h4 := h3.length_eq
                simp at h4
                omega)
              have HIT := Lib.hid hit
              have HNR := Lib.hid HQ.out.2.2.2
              obtain ⟨A1, cc1, hkv, _⟩ := row_slice HXN.out.row
              subst hkv
              obtain ⟨n, hn⟩ : ∃ n, n = (L1 ++ done).length := ⟨_, rfl⟩
              have HN := Lib.hid hn
              have hal := HXN.out.row.alloc (.cells #[.string k] 9)
              rw [← hn] at hal
              have HAL := Lib.hid hal
              have HLL : Hid (n ≤ 824633720832) := Lib.hid (by rw [hn, List.length_append]; have h1 := HPE.out.2.2; have h2 := HLEN.out; omega)
              rw [← hn]
              clear hp hmem hit hf hn hal HQ
              go_wp2_with (at_builtin; refine wpList_append2 _ rfl _ _ 33 rfl w.heap.size 9 i0 (.string ⟨#[]⟩) 1 16 Tryd.underlying33 HI.out HZ0.out HZ1.out HZ2.out rfl (by decide) _ _ _ rfl HAL.out ⟨wn.heap.size, 0, none⟩ 1 1 [.string k] rfl rfl Nat.one_pos ?y1 ?y2 ?y3 ?y4 ?y5 ?_)
              case y2 => simp [Value.oneCell']
              case y3 => have := HLL.out; unfold maxLen; omega
              case y4 => have := HLL.out; omega
              case y5 => have h1 := HXN.out.below.size; simp; omega
              intro v5 w5 hown hgr
              have HPU := Lib.hid (HXN.out.push (o := .cells #[.string k] 9) (by rw [← HN.out, List.map_append, List.append_assoc]; exact hown) (by rw [← HN.out]; simpa using hgr))
              clear hown hgr
              go_wp2_with fail
              go_roundg rest'.length
              case measure => exact HPE.out.2.1
              case rel =>
                refine ⟨done ++ [k], rest', rfl, Lib.hid ⟨by rw [← List.append_assoc]; exact HPU.out.1, HIT.out.same (HPU.out.2.1.block r HIT.out.lt (fun e => HNR.out r e rfl)) (fun M hM => HPU.out.2.1.block M ?_ ?_), HPE.out.1, fun q hq => ?_⟩⟩
                · have h1 := HMB.out M hM; have h2 := HXN.out.below.size; omega
                · intro e
                  have h1 := HMB.out M hM
                  have h2 := (HXN.out.row.lt M e).1
                  omega
                · rcases HPU.out.2.2 q hq with e | e
                  · exact HNR.out q e
                  · have := HIT.out.lt; omega
        · have hltI : ¬ ((kk : Int) < ((s.p0).length : Int)) := by omega
          have hke : kk = (s.p0).length := by omega
          have HE : Hid (L1.Perm (L0 ++ (flat (s.p0)).map (·.1))) := Lib.hid (by have := HR1.out.2; rw [hke, List.take_length] at this; exact this)
          clear hke hlt hkk
          go_wp2_with fail
          refine ⟨⟨1, L1, by omega, by go_num, Lib.hid ⟨HR1.out.1, fun e => by omega, fun e => ?_, fun e => ?_⟩⟩, by simp [intOf]⟩
          · have := HE.out; rw [HR.out.2.1 (by trivial)] at this; exact this
          · omega
    · rcases s.t1_cases with ht | ⟨x, ht⟩
      · have H1 := Lib.hid ht
        have e1 : t1V s.t1 = .slice none 0 0 := by rw [ht]; rfl
        have hix := @idx1
        have hz0 : (1 : Int) < 2 := by omega
        rw [e1]
        clear ht e1 c2
        go_wp2_with fail
        go_loopg [3, 20] 0 (fun _ out k wq => k = .int .i64 0 ∧ Hid (RowK w wq out L0))
        case atStart => exact ⟨rfl, Lib.hid HR.out.1⟩
        case round =>
          obtain ⟨rfl, HRK⟩ := hrel
          have hzz : ¬ ((0 : Int) < 0) := by omega
          go_wp2_with fail
          refine ⟨⟨2, L0, by omega, by go_num, Lib.hid ⟨HRK.out, fun e => by omega, fun e => by omega, fun e => ?_⟩⟩, by simp [intOf]⟩
          unfold St.ents
          rw [H1.out]
          simp only [flat1, List.append_nil]
          exact HR.out.2.2.1 (by trivial)
      · have H1 := Lib.hid ht
        have e1 : t1V s.t1 = .slice (some ⟨x.1, 0, none⟩) x.2.length x.2.length := by rw [ht]; rfl
        have HB0 : Hid (L0.length ≤ 274877906944) := Lib.hid (by have := (HR.out.2.2.1 (by trivial)).length_eq; have h1 := HEN.out; unfold St.ents at h1; rw [List.length_append] at h1; rw [List.length_map] at this; omega)
        have HBP : Hid ((flat x.2).length ≤ 274877906944) := Lib.hid (by have := HEN.out; unfold St.ents at this; rw [List.length_append, H1.out] at this; simp only [flat1] at this; omega)
        rw [e1]
        clear ht e1 c2
        have hix := @idx1
        have hz0 : (1 : Int) < 2 := by omega
        have hpl : (x.2).length ≤ 1099511627776 := (HD.out.len1 x H1.out).2
        go_wp2_with fail
        go_loopw [3, 20] (fun out k wr => ∃ (kk : Nat) (L : List ByteArray), kk ≤ (x.2).length ∧ k = .int .i64 (kk : Int) ∧ Hid (RowK w wr out L ∧ L.Perm (L0 ++ (flat ((x.2).take kk)).map (·.1)))) (fun _ k _ => (x.2).length - (intOf k).toNat)
        case atStart => exact ⟨0, L0, Nat.zero_le _, rfl, Lib.hid ⟨HR.out.1, by simp [flat]⟩⟩
        case round =>
          obtain ⟨kk, L1, hkk, rfl, HR1⟩ := hrel
          have HKK := Lib.hid hkk
          by_cases hlt : kk < (x.2).length
          · have HLT := Lib.hid hlt
            obtain ⟨z, hz⟩ : ∃ z, (x.2)[kk]? = some z := ⟨_, List.getElem?_eq_getElem hlt⟩
            have HFT := Lib.hid (flat_take _ _ _ hz)
            have HLEN : Hid (L1.length + (plE z).length ≤ 824633720832) := Lib.hid (by
              have h1 := HR1.out.2.length_eq
              have h2 := flat_take_le (x.2) (kk + 1)
              have h3 := HB0.out
              have h4 := HBP.out
              rw [HFT.out, List.length_append] at h2
              rw [List.length_append, List.length_map] at h1
              omega)
            have hDW : DAt wr d s := HD.out.below HR1.out.1.below
            have hTW : TabAt wr x.1 (x.2) := hDW.tab1 x H1.out
            have hcell : wr.cell? ⟨x.1, kk, none⟩ = some (.map (plM z)) := by
              rw [Lib.cell_of_heap hTW.row]
              simp [hz, plV_eq]
            have hltI : (kk : Int) < ((x.2).length : Int) := by omega
            have HMO := Lib.hid (hTW.mapO hz)
            have HMB : Hid (∀ M, plM z = some M → M < w.heap.size) := Lib.hid (fun M e => by
              cases z with
              | none => cases e
              | some y =>
                have e : some y.1 = some M := e
                injection e with e
                rw [← e]
                exact HD.out.own_lt y.1 (by have := blks_mem (l := y.2) (List.mem_of_getElem? hz); simp [St.own, H1.out, this]))
            have HRL := Lib.hid HR1.out.1.row.lt
            clear hDW hTW hz hlt hkk
            go_wp2_with (at_range; refine wpList_range_s _ rfl _ _ _ _ rfl Tryd.underlying52 (plM z) (mapE (plE z)) rfl HMO.out ?_)
            intro w1 hit o hw1
            obtain ⟨r, hr⟩ : ∃ r, r = wr.heap.size := ⟨_, rfl⟩
            rw [← hr] at hit ⊢
            have hB1 : Below wr.heap.size wr w1 := by rw [hw1]; exact (Below.refl _ _).alloc (Nat.le_refl _) o
            have HIT := Lib.hid hit
            have HR2 : Hid (RowK w w1 u3 L1 ∧ ∀ q, u3.ownBlock = some q → q ≠ r) := Lib.hid ⟨⟨(Frm.of_below (own := fun _ => False) hB1).row HR1.out.1.row (fun _ _ k => k), HR1.out.1.below.trans (hB1.mono HR1.out.1.below.size)⟩, fun q hq => by have := (HRL.out q hq).2; omega⟩
            have HRW : Hid (w.heap.size ≤ r) := Lib.hid (by rw [hr]; exact HR1.out.1.below.size)
            clear hit hw1 hr hcell hB1
            go_wp2_with fail
            go_loopg [3, 8] (mapE (plE z)).length (fun g out _ wq => ∃ (done : List ByteArray) (rest : KV), g = rest.length ∧ Hid (RowK w wq out (L1 ++ done) ∧ IterAt wq r (plM z) (mapE (plE z)) rest ∧ (done ++ rest.map (·.1)).Perm ((plE z).map (·.1)) ∧ ∀ q, out.ownBlock = some q → q ≠ r))
            case atStart => exact ⟨[], _, rfl, Lib.hid ⟨by rw [List.append_nil]; exact HR2.out.1, HIT.out, by unfold mapE; rw [List.map_map]; exact List.Perm.refl _, HR2.out.2⟩⟩
            case round =>
              obtain ⟨done, rest, hgk, HQ⟩ := hrel
              have HGK := Lib.hid hgk
              clear hgk HIT HR2 HMO
              iterate 2 (first | go_values | go_skip | go_guarded | go_step)
              refine wpList_next_s _ rfl _ rfl r (plM z) (mapE (plE z)) rest rfl HQ.out.2.1 ?_ ?_
              · intro hdone
                have HDN := Lib.hid hdone
                have HE : Hid ((L1 ++ done).Perm (L0 ++ (flat ((x.2).take (kk + 1))).map (·.1))) := Lib.hid (by
                  have h1 := HQ.out.2.2.1
                  rw [HDN.out] at h1
                  rw [HFT.out, List.map_append, ← List.append_assoc]
                  exact HR1.out.2.append (by simpa using h1))
                clear hdone
                go_wp2_with fail
                refine ⟨⟨kk + 1, L1 ++ done, HLT.out, by go_num, Lib.hid ⟨HQ.out.1, HE.out⟩⟩, ?_⟩
                have := HLT.out
                simp only [intOf]; omega
              · rintro ⟨k, vv⟩ rest' wn hp hmem hit hf hen
                have HXN : Hid (RowK w wn u3 (L1 ++ done)) := Lib.hid ⟨hf.row HQ.out.1.row (fun q hq => HQ.out.2.2.2 q hq), HQ.out.1.below.trans ⟨hf.os, hf.tape, hf.output, hf.size, fun q hq => hf.block q (Nat.lt_of_lt_of_le hq HQ.out.1.below.size) (by have := HRW.out; omega)⟩⟩
                have HPE : Hid ((done ++ [k] ++ rest'.map (·.1)).Perm ((plE z).map (·.1)) ∧ rest'.length < gk ∧ done.length < (plE z).length) := Lib.hid (by
                  have h1 := HQ.out.2.2.1
                  have h2 := hp.map (·.1)
                  have h3 : (done ++ [k] ++ rest'.map (·.1)).Perm ((plE z).map (·.1)) := by
                    refine List.Perm.trans ?_ h1
                    rw [List.append_assoc]
                    exact (h2.symm).append_left done
                  refine ⟨h3, by have := hp.length_eq; rw [HGK.out]; simp at this; omega, ?_⟩
                  have h4 := h3.length_eq
                  simp at h4
                  omega)
                have HIT := Lib.hid hit
                have HNR := Lib.hid HQ.out.2.2.2
                obtain ⟨A1, cc1, hkv, _⟩ := row_slice HXN.out.row
                subst hkv
                obtain ⟨n, hn⟩ : ∃ n, n = (L1 ++ done).length := ⟨_, rfl⟩
                have HN := Lib.hid hn
                have hal := HXN.out.row.alloc (.cells #[.string k] 9)
                rw [← hn] at hal
                have HAL := Lib.hid hal
                have HLL : Hid (n ≤ 824633720832) := Lib.hid (by rw [hn, List.length_append]; have h1 := HPE.out.2.2; have h2 := HLEN.out; omega)
                rw [← hn]
                clear hp hmem hit hf hn hal HQ
                go_wp2_with (at_builtin; refine wpList_append2 _ rfl _ _ 33 rfl w.heap.size 9 i0 (.string ⟨#[]⟩) 1 16 Tryd.underlying33 HI.out HZ0.out HZ1.out HZ2.out rfl (by decide) _ _ _ rfl HAL.out ⟨wn.heap.size, 0, none⟩ 1 1 [.string k] rfl rfl Nat.one_pos ?z1 ?z2 ?z3 ?z4 ?z5 ?_)
                case z2 => simp [Value.oneCell']
                case z3 => have := HLL.out; unfold maxLen; omega
                case z4 => have := HLL.out; omega
                case z5 => have h1 := HXN.out.below.size; simp; omega
                intro v5 w5 hown hgr
                have HPU := Lib.hid (HXN.out.push (o := .cells #[.string k] 9) (by rw [← HN.out, List.map_append, List.append_assoc]; exact hown) (by rw [← HN.out]; simpa using hgr))
                clear hown hgr
                go_wp2_with fail
                go_roundg rest'.length
                case measure => exact HPE.out.2.1
                case rel =>
                  refine ⟨done ++ [k], rest', rfl, Lib.hid ⟨by rw [← List.append_assoc]; exact HPU.out.1, HIT.out.same (HPU.out.2.1.block r HIT.out.lt (fun e => HNR.out r e rfl)) (fun M hM => HPU.out.2.1.block M ?_ ?_), HPE.out.1, fun q hq => ?_⟩⟩
                  · have h1 := HMB.out M hM; have h2 := HXN.out.below.size; omega
                  · intro e
                    have h1 := HMB.out M hM
                    have h2 := (HXN.out.row.lt M e).1
                    omega
                  · rcases HPU.out.2.2 q hq with e | e
                    · exact HNR.out q e
                    · have := HIT.out.lt; omega
          · have hltI : ¬ ((kk : Int) < ((x.2).length : Int)) := by omega
            have hke : kk = (x.2).length := by omega
            have HE : Hid (L1.Perm (L0 ++ (flat (x.2)).map (·.1))) := Lib.hid (by have := HR1.out.2; rw [hke, List.take_length] at this; exact this)
            clear hke hlt hkk
            go_wp2_with fail
            refine ⟨⟨2, L1, by omega, by go_num, Lib.hid ⟨HR1.out.1, fun e => by omega, fun e => ?_, fun e => ?_⟩⟩, by simp [intOf]⟩
            · omega
            · have := HE.out; unfold St.ents; rw [H1.out]; rw [List.map_append]; exact this.trans ((HR.out.2.2.1 (by trivial)).append_right _)
    · have HP := Lib.hid (HR.out.2.2.2 (by trivial))
      have HLE : Hid (L0.length ≤ 274877906944) := Lib.hid (by have h1 := HP.out.length_eq; have h2 := HEN.out; rw [List.length_map] at h1; omega)
      have HSO := Lib.hid (sort_row HR.out.1.row (by have := HLE.out; omega))
      go_wp2_with fail
      refine HSO.out.mono ?_
      rintro e w5 ⟨rfl, hown, hgr⟩
      have HOW := Lib.hid hown
      have HGR := Lib.hid hgr
      clear hown hgr
      go_wp2_with fail
      go_ret
      have hsl : (sortT L0).length = L0.length := (sortT_perm L0).length_eq
      refine ⟨u3, sortT L0, rfl, (sortT_perm L0).trans HP.out, sortT_sorted L0, by rw [hsl]; exact HOW.out, HR.out.1.below.trans ⟨HGR.out.os, HGR.out.tape, HGR.out.output, HGR.out.size, fun k hk => HGR.out.block k (Nat.lt_of_lt_of_le hk HR.out.1.below.size) (fun e => by have := (HR.out.1.row.lt k e.symm).1; omega)⟩⟩
end Go.Proofs.YtnoalklbgncajaaDoor.Dct
