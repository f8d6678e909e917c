/- Chapter 09: the one of a rank. Printed by gen_at09.py. -/
import Derived.Test.YtmlaackdcnpjmaaDoorRank09
namespace Go.Proofs.YtmlaackdcnpjmaaDoor.Skp
open Go Go.RowKit Go.Proofs.YtmlaackdcnpjmaaDoor.Pin Go.Proofs.YtmlaackdcnpjmaaDoor.Flt
theorem results_row_tmp {Pr : Program} {fn : Func} {p u : Tmp} {ty : TypeId} (h : fn.results = #[.cell p ty, .tmp u]) (tmps : Array Value) (w : World) (g : Nat) (cs : Array Value) (d : TypeDesc)
    (hp : tmps.getD p undef = .pointer (some ⟨g, 0, none⟩)) (hg : w.heap[g]? = some (.cells cs ty (0, 0))) (hu : Pr.underlying ty = some d) (hd : (match d with | .struct _ | .array _ _ => true | _ => false) = true) (hi : (Pr.info? ty).map (·.size) = some cs.size) :
    (results fn tmps).run Pr w = .ok (.tuple #[.agg cs, tmps.getD u undef]) w := by
  have hp' : tmps[p]?.getD undef = .pointer (some ⟨g, 0, none⟩) := by simpa using hp
  simp [results, h, hp', asAddr, run_loadVar_row w g ty ty cs (0, 0) d hg hu hd hi, Result.andThen]
theorem info_sc : (Tryd.prog.info? 31).map (·.size) = some 2 := by kernel_rfl
abbrev zSc : Array Value := #[.string ⟨#[]⟩, .float .f64 0]
structure AtO (w : World) (ht : Nat → Nat) (R i j : Nat) (wr : World) : Prop where
  le : i ≤ R
  hi : j ≤ ht i
  lst : j < 32 → Lst ht R j i
  res : wr.heap[w.heap.size]? = some (.cells zSc 31 (0, 0))
  old : Below w.heap.size w wr
structure AtI (w : World) (n : Nat) (bl ht : Nat → Nat) (R i h g : Nat) (wr : World) : Prop where
  le : i ≤ R
  hi : h < ht i
  res : wr.heap[w.heap.size]? = some (.cells zSc 31 (0, 0))
  old : Below w.heap.size w wr
  lnk : ∃ to sp, wr.heap[g]? = some (.cells #[.pointer to, .int .i64 sp] 61 (0, 0)) ∧ LnkV n bl ht h i to sp
set_option maxHeartbeats 2000000 in
set_option maxRecDepth 100000 in
theorem at_yes {own : Nat → Prop} {s seed n : Nat} {bl ht : Nat → Nat} {mem : Nat → Sc} (k : Nat) (hk : k < n) (w : World) (hS : Sk w own s seed n bl ht mem) :
    Calls Tryd.prog 18 #[.pointer (some ⟨s, 0, none⟩), .int .i64 (k : Int)] w fun e w' => e = .returned (.tuple #[scV (mem (k + 1)), .bool true]) ∧ Below w.heap.size w w' := by
  have HS := Lib.hid hS
  have HG := Lib.hid (fun W (hW : Below w.heap.size w W) => gone_no s (bl 0) W (hS.below hW).head)
  have HB0 := Lib.hid ((Below.refl w.heap.size w).alloc (Nat.le_refl _) (.cells zSc 31))
  obtain ⟨R, hR⟩ : ∃ R, R = k + 1 := ⟨_, rfl⟩
  have HR := Lib.hid hR
  have HK := Lib.hid hk
  have hhd := hS.head
  have hcn : w.cell? ⟨s, 2, none⟩ = some (.int .i64 (n : Int)) := by rw [Lib.cell_of_heap hS.top]; rfl
  have hsl := hS.slt
  have h1 : decide ((k : Int) < 0) = false := by simp
  have h2 : decide (n ≤ k) = false := by simpa using hk
  have hsum : IntKind.i64.wrap ((k : Int) + 1) = (R : Int) := by rw [IntKind.wrap_i64]; have := hS.few; omega
  rw [← hR]
  clear hS hR hk
  go_enter Tryd.func18, Tryd.ntmps18
  go_wp2_with fail
  refine (HG.out _ HB0.out).mono ?_
  rintro e w' ⟨rfl, rfl⟩
  go_wp2_with fail
  go_loopw [6, 7, 8] (fun x k hh wr => ∃ (i j : Nat) (z y : Int), x = .pointer (some ⟨bl i, 0, none⟩) ∧ k = .int .i64 y ∧ hh = .int .i64 z ∧ Hid (y = (R : Int) - (i : Int)) ∧ Hid (z = (j : Int) - 1) ∧ Hid (AtO w ht R i j wr)) (fun _ _ hh _ => (intOf hh + 1).toNat)
  case atStart =>
    exact ⟨0, 32, 31, (R : Int), rfl, by go_num, rfl, Lib.hid (by omega), Lib.hid (by omega), Lib.hid ⟨Nat.zero_le _, by rw [HS.out.ht0]; omega, fun h => by omega, heap_alloc_new w _, HB0.out⟩⟩
  case round =>
    obtain ⟨i, j, z, y, rfl, rfl, rfl, HY, HZ, HO⟩ := hrel
    cases j with
    | zero =>
      obtain rfl : z = -1 := by have := HZ.out; omega
      have hRn : R ≤ n := by have := HR.out; have := HK.out; omega
      obtain rfl : i = R := lst_low (fun p hp => (HS.out.htb p (Nat.le_trans hp hRn)).1) (HO.out.lst (by omega))
      have hm := HS.out.mbr i (by have := HR.out; omega) hRn
      have hm0 : wr.cell? ⟨bl i, 0, none⟩ = some (.string (mem i).1) := (HO.out.old.cell (p := ⟨bl i, _, none⟩) (HS.out.lt hRn)).trans hm.1
      have hm1 : wr.cell? ⟨bl i, 1, none⟩ = some (.float .f64 (mem i).2) := (HO.out.old.cell (p := ⟨bl i, _, none⟩) (HS.out.lt hRn)).trans hm.2
      have HON : Hid ((#[.string (mem i).1, .float .f64 (mem i).2] : Array Value).all (·.oneCell') = true) := Lib.hid (by simp [Value.oneCell'])
      clear hm hRn
      go_wp2_with (refine wpList_store_into rfl 31 (.tmp 4) (.tmp 66) (by rfl) w.heap.size #[.string (mem i).1, .float .f64 (mem i).2] (by rfl) (by rfl) 31 _ HO.out.res info_sc rfl HON.out ?_; intro W2 hI2; have HI2 := Lib.hid hI2; clear hI2)
      refine bodyPost_ret (results_row_tmp (p := 4) (u := 5) (ty := 31) rfl _ _ w.heap.size #[.string (mem i).1, .float .f64 (mem i).2] _ rfl HI2.out.at_ Tryd.underlying31 rfl info_sc) rfl ?_
      exact ⟨rfl, HI2.out.below HO.out.old (Nat.le_refl _)⟩
    | succ h =>
      obtain rfl : z = (h : Int) := by have := HZ.out; omega
      have hlow : (0 : Int) ≤ (h : Int) := by omega
      have hRn : R ≤ n := by have := HR.out; have := HK.out; omega
      have hh32 : h < 32 := by have h1 := HO.out.hi; have h2 := (HS.out.htb i (Nat.le_trans HO.out.le hRn)).2; omega
      obtain ⟨to, sp, c1, c2, hlv⟩ := (HS.out.lvl h hh32 i (Nat.le_trans HO.out.le hRn) (by have := HO.out.hi; omega)).vals
      have c1' : wr.cell? ⟨bl i, 3 + h * 2, none⟩ = some (.pointer to) := (HO.out.old.cell (p := ⟨bl i, _, none⟩) (HS.out.lt (Nat.le_trans HO.out.le hRn))).trans c1
      have c2' : wr.cell? ⟨bl i, 3 + h * 2 + 1, none⟩ = some (.int .i64 sp) := (HO.out.old.cell (p := ⟨bl i, _, none⟩) (HS.out.lt (Nat.le_trans HO.out.le hRn))).trans c2
      have HLV := Lib.hid hlv
      have HC1 := Lib.hid c1
      have HC2 := Lib.hid c2
      have HRN := Lib.hid hRn
      clear c1 c2 hlv hRn
      go_wp2_with fail
      have HI0 : Hid (AtI w n bl ht R i h wr.heap.size (wr.alloc (.cells #[.pointer to, .int .i64 sp] 61))) := Lib.hid ⟨HO.out.le, by have := HO.out.hi; omega, (Lib.alloc_old _ _ _ (Array.getElem?_eq_some_iff.1 HO.out.res).1).trans HO.out.res, HO.out.old.alloc HO.out.old.size _, ⟨to, sp, heap_alloc_new wr _, HLV.out⟩⟩
      have HY0 := Lib.hid HY.out
      clear c1' c2' HC1 HC2 HLV HZ HO HY
      go_loopw [6, 7, 9] (fun x k t wr => ∃ (i g : Nat) (y : Int), x = .pointer (some ⟨bl i, 0, none⟩) ∧ k = .int .i64 y ∧ t = .pointer (some ⟨g, 0, none⟩) ∧ Hid (y = (R : Int) - (i : Int)) ∧ Hid (AtI w n bl ht R i h g wr)) (fun _ k _ _ => (intOf k).toNat)
      case atStart => exact ⟨i, wr.heap.size, y, rfl, rfl, rfl, HY0, HI0⟩
      case round =>
        obtain ⟨i, g, y, rfl, rfl, rfl, HY, HI⟩ := hrel
        clear HI0 HY0
        obtain ⟨to, sp, hg, hlv⟩ := HI.out.lnk
        have t0 : wr.cell? ⟨g, 0, none⟩ = some (.pointer to) := by rw [Lib.cell_of_heap hg]; rfl
        have t1 : wr.cell? ⟨g, 1, none⟩ = some (.int .i64 sp) := by rw [Lib.cell_of_heap hg]; rfl
        have HG2 := Lib.hid hg
        clear hg
        rcases hlv with ⟨c, a1, a2, a3, a4, rfl, rfl⟩ | ⟨a1, rfl⟩
        · have HA1 := Lib.hid a1
          have HA2 := Lib.hid a2
          have HA3 := Lib.hid a3
          have HA4 := Lib.hid a4
          have hcast : ((c - i : Nat) : Int) = (c : Int) - (i : Int) := by omega
          rw [hcast] at t1
          by_cases hcR : c ≤ R
          · have hle : (c : Int) - (i : Int) ≤ y := by have := HY.out; omega
            have HcR := Lib.hid hcR
            obtain ⟨to, sp, c1, c2, hlv⟩ := (HS.out.lvl h hh32 c HA2.out HA3.out).vals
            have c1' : wr.cell? ⟨bl c, 3 + h * 2, none⟩ = some (.pointer to) := (HI.out.old.cell (p := ⟨bl c, _, none⟩) (HS.out.lt HA2.out)).trans c1
            have c2' : wr.cell? ⟨bl c, 3 + h * 2 + 1, none⟩ = some (.int .i64 sp) := (HI.out.old.cell (p := ⟨bl c, _, none⟩) (HS.out.lt HA2.out)).trans c2
            have hclt : bl c < wr.heap.size := Nat.lt_of_lt_of_le (HS.out.lt HA2.out) HI.out.old.size
            have HLV := Lib.hid hlv
            have hsb : IntKind.i64.wrap (y - ((c : Int) - (i : Int))) = (R : Int) - (c : Int) := by rw [IntKind.wrap_i64]; have := HS.out.few; have := HY.out; have := HRN.out; omega
            clear c1 c2 hlv hcast a1 a2 a3 a4 hcR
            go_wp2_with fail
            refine wp_region_q [0,1,0,0,1,0,0,0] (by kernel_rfl) (by kernel_rfl) ?_
            (refine q_pure_n rfl (fun K hK => ?_); go_simp; refine hK _ _ ?_; clear hK K)
            (refine q_read_n rfl (fun K hK => ?_); go_simp; refine hK _ _ ?_; clear hK K)
            (refine q_pure_n rfl (fun K hK => ?_); go_simp; refine hK _ _ ?_; clear hK K)
            (refine q_pure_n rfl (fun K hK => ?_); go_simp; refine hK _ _ ?_; clear hK K)
            (refine q_read_n rfl (fun K hK => ?_); go_simp; refine hK _ _ ?_; clear hK K)
            (refine q_pure_n rfl (fun K hK => ?_); go_simp; refine hK _ _ ?_; clear hK K)
            (refine q_pure_n rfl (fun K hK => ?_); go_simp; refine hK _ _ ?_; clear hK K)
            (refine q_pure_n rfl (fun K hK => ?_); go_simp; refine hK _ _ ?_; clear hK K)
            refine q_nil ?_
            intro nq
            go_wp2_with fail
            refine ⟨⟨c, wr.heap.size, (R : Int) - (c : Int), rfl, rfl, rfl, Lib.hid rfl, Lib.hid ⟨HcR.out, HA3.out, ?_, below_drewN (HI.out.old.alloc HI.out.old.size _) _, ⟨to, sp, heap_alloc_new wr _, HLV.out⟩⟩⟩, by have := HA1.out; have := HcR.out; have := HY.out; simp [intOf]; omega⟩
            exact (Lib.alloc_old _ _ _ (Array.getElem?_eq_some_iff.1 HI.out.res).1).trans HI.out.res
          · have hle : ¬ (c : Int) - (i : Int) ≤ y := by have := HY.out; omega
            have HL : Hid (Lst ht R h i) := Lib.hid ⟨HI.out.le, HI.out.hi, fun r r1 r2 => HA4.out r r1 (by omega)⟩
            clear hcast a1 a2 a3 a4 hcR
            go_wp2_with fail
            exact ⟨⟨i, h, (h : Int) - 1, y, rfl, rfl, rfl, HY, Lib.hid rfl, Lib.hid ⟨HI.out.le, Nat.le_of_lt HI.out.hi, fun _ => HL.out, HI.out.res, HI.out.old⟩⟩, by simp [intOf]⟩
        · have HL : Hid (Lst ht R h i) := Lib.hid ⟨HI.out.le, HI.out.hi, fun r r1 r2 => a1 r r1 (Nat.le_trans r2 HRN.out)⟩
          clear a1
          go_wp2_with fail
          exact ⟨⟨i, h, (h : Int) - 1, y, rfl, rfl, rfl, HY, Lib.hid rfl, Lib.hid ⟨HI.out.le, Nat.le_of_lt HI.out.hi, fun _ => HL.out, HI.out.res, HI.out.old⟩⟩, by simp [intOf]⟩
theorem at_no {own : Nat → Prop} {s seed n : Nat} {bl ht : Nat → Nat} {mem : Nat → Sc} (k : Int) (hk : k < 0 ∨ (n : Int) ≤ k) (w : World) (hS : Sk w own s seed n bl ht mem) :
    Calls Tryd.prog 18 #[.pointer (some ⟨s, 0, none⟩), .int .i64 k] w fun e w' => e = .returned (.tuple #[.agg zSc, .bool false]) ∧ Below w.heap.size w w' := by
  have HG := Lib.hid (fun W (hW : Below w.heap.size w W) => gone_no s (bl 0) W (hS.below hW).head)
  have HB0 := Lib.hid ((Below.refl w.heap.size w).alloc (Nat.le_refl _) (.cells zSc 31))
  have hcn : w.cell? ⟨s, 2, none⟩ = some (.int .i64 (n : Int)) := by rw [Lib.cell_of_heap hS.top]; rfl
  have hsl := hS.slt
  have HON : Hid (zSc.all (·.oneCell') = true) := Lib.hid (by simp [zSc, Value.oneCell'])
  clear hS
  by_cases h1 : k < 0
  · clear hk
    go_enter Tryd.func18, Tryd.ntmps18
    go_wp2_with fail
    refine (HG.out _ HB0.out).mono ?_
    rintro e w' ⟨rfl, rfl⟩
    go_wp2_with (refine wpList_store_into rfl 31 (.tmp 4) (.tmp 24) (by rfl) w.heap.size zSc (by rfl) (by rfl) 31 _ (heap_alloc_new w _) info_sc rfl HON.out ?_; intro W2 hI2; have HI2 := Lib.hid hI2; clear hI2)
    refine bodyPost_ret (results_row_tmp (p := 4) (u := 5) (ty := 31) rfl _ _ w.heap.size zSc _ rfl HI2.out.at_ Tryd.underlying31 rfl info_sc) rfl ?_
    exact ⟨rfl, HI2.out.below HB0.out (Nat.le_refl _)⟩
  · have h2 : (n : Int) ≤ k := by omega
    clear hk
    go_enter Tryd.func18, Tryd.ntmps18
    go_wp2_with fail
    refine (HG.out _ HB0.out).mono ?_
    rintro e w' ⟨rfl, rfl⟩
    go_wp2_with (refine wpList_store_into rfl 31 (.tmp 4) (.tmp 24) (by rfl) w.heap.size zSc (by rfl) (by rfl) 31 _ (heap_alloc_new w _) info_sc rfl HON.out ?_; intro W2 hI2; have HI2 := Lib.hid hI2; clear hI2)
    refine bodyPost_ret (results_row_tmp (p := 4) (u := 5) (ty := 31) rfl _ _ w.heap.size zSc _ rfl HI2.out.at_ Tryd.underlying31 rfl info_sc) rfl ?_
    exact ⟨rfl, HI2.out.below HB0.out (Nat.le_refl _)⟩
end Go.Proofs.YtmlaackdcnpjmaaDoor.Skp
